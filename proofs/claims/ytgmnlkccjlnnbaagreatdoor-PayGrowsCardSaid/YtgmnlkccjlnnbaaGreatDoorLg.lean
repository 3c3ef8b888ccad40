/- A function by hand. -/
import Derived.Test.YtgmnlkccjlnnbaaGreatDoorLf
import Derived.RangeFuncNested
import Derived.RangeFuncBound
import Derived.RangeFuncBox
import Derived.RangeFuncFrom
import Derived.RangeFuncCalls
import Derived.RangeFuncLeaves
import Derived.Shelf.Abstract
import Derived.OwnWalkIn
import Derived.TacticsInMore
import Derived.LoopNIn
import Derived.LoopIn
import Derived.Test.YtgmnlkccjlnnbaaGreatDoorLd
set_option linter.unusedSimpArgs false
set_option linter.unusedVariables false
set_option maxHeartbeats 1000000
set_option maxRecDepth 100000
namespace Go.Proofs.YtgmnlkccjlnnbaaGreatDoor
noncomputable section
open Go Go.Av Go.RowKit Go.Shelf
section
attribute [local go_sem] Oper.semAt_some
set_option linter.unusedSimpArgs false
set_option linter.unusedVariables false
set_option maxHeartbeats 1000000
set_option maxRecDepth 100000
/-- Oh first open day from one day to Td -/
def tY (c:jA):Nat→Int→Option Int
  | 0,_=>none
  | n+1,d=>bif fX c d then some d else tY c n (d+1)
def Ac (c:jA) (day last:Int):Option Int:=tY c (last - day+1).toNat day
def dY (c:jA) (day:Int):Int × Int :=
  bif !(fa day) then (0,3) else match Ac c day (min (au (day+400)) 100000) with | some d=>(d,0) | none=>(0,3)
theorem Tryz.ntmps232:Tryz.f232.ntmps=21:=by kernel_rfl
theorem Tryz.ntmps193:Tryz.f193.ntmps=18:=by kernel_rfl

def fb (c:jA):Nat→Int→List Int
  | 0,_=>[]
  | n+1,d=>bif fX c d then d :: fb c n (d+1) else fb c n (d+1)

theorem Sg (c:jA) (d:Int) (v:Value) (w:World) (S:Nat→Prop) (hb:∀ b,S b→b < w.heap.size) (hg:jy w S) (hr:Rd w S (.agg c.cells) v) :
    Calls Tryz.prog 233 #[v,.int .i64 d] w fun e w'=>e=.returned (.bool (fX c d))∧w.grownBy w' none:=by
  refine Calls.mono ((Ev c d).2 w S (fun _=>none) #[v,.int .i64 d] hb hg (fun ν=>⟨rfl,fun i hi=>?_⟩) (fun κ b h=>by simp [Go.Av.look] at h) (fun κ κ' b b' g c c' h=>by simp [Go.Av.look] at h)) ?_
  · match i,hi with
    | 0,_=>exact .d hr
    | 1,_=>exact gy rfl
    | i+2,hi=>simp at hi; omega
  · rintro e w' ⟨u,S',μ',rfl,B⟩
    have hu:u=.bool (fX c d):=nf (B.res fun _=>false)
    subst hu
    exact ⟨rfl,B.kept.os,B.kept.tape,B.kept.output,B.kept.size,fun k hk _=>B.kept.block k hk (fun ⟨κ,b,c,h,_⟩=>by simp [Go.Av.look] at h)⟩

theorem Xl (l bf bt bc n₁ m:Nat) (c:jA) (from_ last:Int) (v0 v1 v2 v3 v4 v5:Value) (S:Nat→Prop) (J Jx:List Int→World→Prop)
    (aeP : -9000000000000000000≤from_) (ZT:last≤9000000000000000000) (hS:∀ b,S b→b < n₁) (hbf:bf < n₁) (hbt:bt < n₁) (Yo:bc < n₁) (hJ:AbidesFrom m J)
    (hY:∀ pre x W,J pre W→pre.length < (fb c (last - from_+1).toNat from_).length→YieldAt Fence.wide 2 Tryz.prog l #[.int .i64 x] W fun e W' =>
      (e=.returned (.bool true)∧J (pre++[x]) W'∧Below n₁ W W')∨(e=.returned (.bool false)∧Jx (pre++[x]) W'))
    (W:World) (hn₁:n₁≤W.heap.size) (hG:jy W S) (hR:Rd W S (.agg c.cells) (.agg #[v0,v1,v2,v3,v4,v5]))
    (hBf:W.cell? ⟨bf,0,none⟩=some (.int .i64 from_)) (hBt:W.cell? ⟨bt,0,none⟩=some (.int .i64 last))
    (hC0:W.cell? ⟨bc,0,none⟩=some v0) (hC1:W.cell? ⟨bc,1,none⟩=some v1) (hC2:W.cell? ⟨bc,2,none⟩=some v2) (hC3:W.cell? ⟨bc,3,none⟩=some v3) (hC4:W.cell? ⟨bc,4,none⟩=some v4) (hC5:W.cell? ⟨bc,5,none⟩=some v5) (h0:J [] W) :
    CallsIn Fence.wide 3 Tryz.prog 232 #[.func (.yield l) #[] #[],.pointer (some ⟨bf,0,none⟩),.pointer (some ⟨bt,0,none⟩),.pointer (some ⟨bc,0,none⟩)] W fun e W'=>(∃ v,e=.returned v) ∧
      ((∃ ys,ys=fb c (last - from_+1).toNat from_∧J ys W')∨(∃ pre,pre <+: fb c (last - from_+1).toNat from_∧Jx pre W')):=by
  refine callsIn_of_wp Tryz.func232 rfl trivial ?_ rfl
  simp only [Tryz.ntmps232,List.size_toArray,List.length_cons,List.length_nil,Nat.reduceAdd,Nat.reduceSub,Array.replicate_succ,Array.replicate_zero,List.push_toArray,List.append_toArray,List.nil_append,List.cons_append]
  gi_wp2
  gi_loopw [5] (fun p wr=>∃ (d:Int) (pre:List Int),p=.int .i64 d∧from_≤d∧fb c (last - from_+1).toNat from_=pre++fb c (last - d+1).toNat d∧J pre wr∧Below n₁ W wr)
    (fun p _=>(last+1 - intOf p).toNat)
  case atStart=>exact ⟨from_,[],rfl,Int.le_refl _,rfl,h0,Below.refl _ _⟩
  case round =>
    obtain ⟨d,pre,rfl,hd,hx,hJs,Bm⟩:=acr
    have ae2:wr.cell? ⟨bt,0,none⟩=some (.int .i64 last):=(Bm.cell (p:=⟨bt,0,none⟩) hbt).trans hBt
    have ae3:=(Bm.cell (p:=⟨bc,0,none⟩) Yo).trans hC0
    have ae4:=(Bm.cell (p:=⟨bc,1,none⟩) Yo).trans hC1
    have ae5:=(Bm.cell (p:=⟨bc,2,none⟩) Yo).trans hC2
    have ae6:=(Bm.cell (p:=⟨bc,3,none⟩) Yo).trans hC3
    have ae7:=(Bm.cell (p:=⟨bc,4,none⟩) Yo).trans hC4
    have ae8:=(Bm.cell (p:=⟨bc,5,none⟩) Yo).trans hC5
    have TJ:=Sg c d (.agg #[v0,v1,v2,v3,v4,v5]) wr S (fun b hb=>Nat.lt_of_lt_of_le (hS b hb) (Nat.le_trans hn₁ Bm.size)) (hG.mono (fun _ h=>h) (fun b hb=>Bm.block b (hS b hb))) (hR.mono (fun _ h=>h) (fun b hb=>Bm.block b (hS b hb)))
    have hJ2:∀ W2,wr.grownBy W2 none→J pre W2:=fun W2 hg=>hJ pre wr W2 none hJs hg (fun r e=>by cases e)
    have hB2:∀ W2,wr.grownBy W2 none→Below n₁ W W2:=fun W2 hg=>Bm.trans ⟨hg.os,hg.tape,hg.output,hg.size,fun k hk=>hg.block k (Nat.lt_of_lt_of_le hk (Nat.le_trans hn₁ Bm.size)) (by simp)⟩
    by_cases hle:d≤last
    · have hfu:(last - d+1).toNat=(last - (d+1)+1).toNat+1:=by omega
      cases ho:fX c d with
      | true =>
        rw [ho] at TJ
        rw [hfu,fb,ho,cond_true] at hx
        have hlen:pre.length < (fb c (last - from_+1).toNat from_).length:=by rw [hx]; simp
        gi_wp2
        refine ⟨trivial,(callsIn_wide.2 TJ).mono ?_⟩
        rintro e W2 ⟨rfl,N9⟩
        obtain ⟨fn,tmps,assign,body,hy,hRR⟩:=hY pre d W2 (hJ2 W2 N9) hlen
        gi_wp2
        refine hRR.mono ?_
        rintro e W3 (⟨rfl,hJ3,hk3⟩ | ⟨rfl,aeo⟩)
        · gi_wp2
          go_roundw
          case rel=>exact ⟨d+1,pre++[d],by simp,by omega,by rw [hx]; simp,hJ3,(hB2 W2 N9).trans hk3⟩
          case measure=>simp [intOf]; omega
        · gi_wp2
          refine bodyPost_ret (results_none rfl _ _ _) rfl ?_
          exact ⟨⟨_,rfl⟩,.inr ⟨pre++[d],⟨fb c (last - (d+1)+1).toNat (d+1),by rw [hx]; simp⟩,aeo⟩⟩
      | false =>
        rw [ho] at TJ
        rw [hfu,fb,ho,cond_false] at hx
        gi_wp2
        refine ⟨trivial,(callsIn_wide.2 TJ).mono ?_⟩
        rintro e W2 ⟨rfl,N9⟩
        gi_wp2
        refine ⟨fun _ h=>(by cases h),?_⟩
        gi_wp2
        go_roundw
        case rel=>exact ⟨d+1,pre,by simp,by omega,hx,hJ2 W2 N9,hB2 W2 N9⟩
        case measure=>simp [intOf]; omega
    · gi_wp2
      go_end0
      have h0:(last - d+1).toNat=0:=by omega
      rw [h0,fb,List.append_nil]
      exact ⟨⟨_,rfl⟩,.inl hJs⟩

theorem Tryz.ntmps214:Tryz.f214.ntmps=8:=by kernel_rfl
theorem Y2 (v0 v1 v2 v3 v4 v5:Value) (day last:Int) (w:World):CallsIn Fence.wide 3 Tryz.prog 214 #[.agg #[v0,v1,v2,v3,v4,v5],.int .i64 day,.int .i64 last] w fun e w' =>
    e=.returned (.func (.func 232) #[] #[.pointer (some ⟨w.heap.size+1,0,none⟩),.pointer (some ⟨w.heap.size+2,0,none⟩),.pointer (some ⟨w.heap.size,0,none⟩)])∧w'=((w.alloc (.cells #[v0,v1,v2,v3,v4,v5] 159)).alloc (.cells #[.int .i64 day] 3)).alloc (.cells #[.int .i64 last] 3):=by
  refine callsIn_of_wp Tryz.func214 rfl trivial ?_ rfl
  simp only [Tryz.ntmps214,List.size_toArray,List.length_cons,List.length_nil,Nat.reduceAdd,Nat.reduceSub,Array.replicate_succ,Array.replicate_zero,List.push_toArray,List.append_toArray,List.nil_append,List.cons_append]
  gi_wp2
  go_ret
  exact ⟨rfl,rfl⟩

theorem Qa (d:Int) (w:World) (S:Nat→Prop) (hb:∀ b,S b→b < w.heap.size) (hg:jy w S) :
    Calls Tryz.prog 213 #[.int .i64 d] w fun e w'=>e=.returned (.bool (fa d))∧w.grownBy w' none:=by
  refine Calls.mono ((Dc d).2 w S (fun _=>none) #[.int .i64 d] hb hg (fun ν=>⟨rfl,fun i hi=>?_⟩) (fun κ b h=>by simp [Go.Av.look] at h) (fun κ κ' b b' g c c' h=>by simp [Go.Av.look] at h)) ?_
  · match i,hi with
    | 0,_=>exact gy rfl
    | i+1,hi=>simp at hi
  · rintro e w' ⟨u,S',μ',rfl,B⟩
    have hu:u=.bool (fa d):=nf (B.res fun _=>false)
    subst hu
    exact ⟨rfl,B.kept.os,B.kept.tape,B.kept.output,B.kept.size,fun k hk _=>B.kept.block k hk (fun ⟨κ,b,c,h,_⟩=>by simp [Go.Av.look] at h)⟩

theorem Ew {w w':World} {S:Nat→Prop} {T:Nat→Prop} {a b:Int} (hS:∀ q,S q→q < w.heap.size) (h:Below w.heap.size w w'):∃ v S' μ',Ending.returned (.tuple #[.int .i64 a,.int .i64 b])=.returned v∧OH w S T (.fL [iv a,iv b]) [] v S' μ' w':=by
  refine ⟨_,S,fun _=>none,rfl,⟨fun ν=>.fL rfl (fun i hi=>?_),fun κ b h=>by simp [Go.Av.look] at h,fun κ κ' b b' g c c' h=>by simp [Go.Av.look] at h,fun κ b g c h=>by simp [Go.Av.look] at h,fun _ h=>h,fun _ h=>.inl h,fun q hq=>Nat.lt_of_lt_of_le (hS q hq) h.size,⟨h.os,h.tape,h.output,h.size,fun k hk _=>h.block k hk⟩⟩⟩
  match i,hi with
  | 0,_=>exact gy rfl
  | 1,_=>exact gy rfl
  | i+2,hi=>simp at hi; omega

theorem results193 (tmps:Array Value) (W:World) (b4 b5:Nat) (x y:Int) (h4:tmps.getD 4 undef=.pointer (some ⟨b4,0,none⟩)) (h5:tmps.getD 5 undef=.pointer (some ⟨b5,0,none⟩)) (hx:W.cell? ⟨b4,0,none⟩=some (.int .i64 x)) (hy:W.cell? ⟨b5,0,none⟩=some (.int .i64 y)) :
    (results Tryz.f193 tmps).run Tryz.prog W=.ok (.tuple #[.int .i64 x,.int .i64 y]) W:=by
  have e:Tryz.f193.results = #[.cell 4 3,.cell 5 67]:=by kernel_rfl
  have u3:Tryz.prog.underlying 3=some (.int .i64):=by kernel_rfl
  have u49:Tryz.prog.underlying 67=some (.int .i64):=by kernel_rfl
  have h4':tmps[4]?.getD undef=.pointer (some ⟨b4,0,none⟩):=by simpa [Array.getD_eq_getD_getElem?] using h4
  have h5':tmps[5]?.getD undef=.pointer (some ⟨b5,0,none⟩):=by simpa [Array.getD_eq_getD_getElem?] using h5
  simp [results,e,h4',h5',go_sem,run_underlying u3,run_underlying u49,hx,hy]

theorem vn (c:jA):∀ (n:Nat) (d:Int),(fb c n d).head? = tY c n d
  | 0,_=>rfl
  | n+1,d=>by
    simp only [fb,tY]
    cases fX c d with
    | true=>rfl
    | false=>exact vn c n (d+1)


theorem Xm (c:jA) (day last t13:Int) (v0 v1 v2 v3 v4 v5:Value) (w W1:World) (S:Nat→Prop) (Q:Exit→Act→World→Prop) (PO : -9000000000000000000≤day) (ZT:last≤9000000000000000000)
    (hb:∀ b,S b→b < w.heap.size) (hg:jy w S) (hR:Rd w S (.agg c.cells) (.agg #[v0,v1,v2,v3,v4,v5])) (X4:Below w.heap.size w W1) (Y3:Boxed W1 (w.heap.size+1) 3 (.int .i64 0)) (Y4:Boxed W1 (w.heap.size+1+1) 67 (.int .i64 0))
    (tm:Value→Value→Array Value) (htm:tm=fun x y=>#[Value.agg #[v0,v1,v2,v3,v4,v5],Value.int IntKind.i64 day,Value.pointer (some { block:=w.heap.size,off:=0 }),undef,Value.pointer (some { block:=w.heap.size+1,off:=0 }),
          Value.pointer (some { block:=w.heap.size+1+1,off:=0 }),y,Value.int IntKind.i64 day,Value.bool true,Value.bool false,Value.agg #[v0,v1,v2,v3,v4,v5],Value.int IntKind.i64 day,Value.int IntKind.i64 day,Value.int IntKind.i64 t13,Value.int IntKind.i64 last,
          Value.func (Fn.func 232) #[] #[Value.pointer (some { block:=W1.heap.size+1,off:=0 }),Value.pointer (some { block:=W1.heap.size+2,off:=0 }),Value.pointer (some { block:=W1.heap.size,off:=0 })],x,undef])
    (acw:fb c (last - day+1).toNat day=[]→∀ (D:Nat) (W:World),W1.heap.size+3≤D→Boxed W (w.heap.size+1) 3 (.int .i64 0)→Boxed W (w.heap.size+1+1) 67 (.int .i64 0)→Below w.heap.size w W→W.heap[D]? = some (.deferred (some []))→Q .normal { tmps:=tm undef undef,defers:=[{ target:=.collected D,args:=#[] }] } W)
    (acx:∀ (x:Int) (D:Nat) (W:World),(fb c (last - day+1).toNat day).head? = some x→W1.heap.size+3≤D→Boxed W (w.heap.size+1) 3 (.int .i64 x)→Boxed W (w.heap.size+1+1) 67 (.int .i64 0)→Below w.heap.size w W→W.heap[D]? = some (.deferred (some []))→Code.ret.wpIn Fence.wide 4 Tryz.prog Q { tmps:=tm undef undef,defers:=[{ target:=.collected D,args:=#[] }] } W) :
    Code.wpIn Fence.wide 4 Tryz.prog
    (Code.rangeFunc (Operand.tmp 15) #[16]
      (Code.region 4
        #[{ dst:=some 6,op:=Op.assign (Operand.tmp 16),type:=3,pos:= "calendar.go:125",after:=#[],
            guard:=none }]
        false)
      (Code.block 1
        ((Code.region 5
              #[{ dst:=some 17,op:=Op.move (Operand.tmp 6),type:=3,pos:= "calendar.go:126",after:=#[],
                  guard:=none },
                { dst:=none,op:=Op.store 3 (Operand.tmp 4) (Operand.tmp 17),type:=0,pos:= "calendar.go:126",
                  after:=#[{ on:=0,ground:=Ground.data },{ on:=0,ground:=Ground.phase }],guard:=none },
                { dst:=none,op:=Op.store 67 (Operand.tmp 5) (Operand.const (Value.int IntKind.i64 0)),type:=0,
                  pos:= "calendar.go:126",
                  after :=
                    #[{ on:=1,ground:=Ground.chain },{ on:=0,ground:=Ground.phase },
                      { on:=1,ground:=Ground.phase }],
                  guard:=none }]
              false).seq
          Code.ret))) Q { tmps:=tm undef undef,defers:=[] }
    (((W1.alloc (Obj.cells #[v0,v1,v2,v3,v4,v5] 159)).alloc (Obj.cells #[Value.int IntKind.i64 day] 3)).alloc
      (Obj.cells #[Value.int IntKind.i64 last] 3)):=by
  obtain ⟨W2,Vu⟩:∃ W2,((W1.alloc (Obj.cells #[v0,v1,v2,v3,v4,v5] 159)).alloc (Obj.cells #[Value.int IntKind.i64 day] 3)).alloc (Obj.cells #[Value.int IntKind.i64 last] 3)=W2:=⟨_,rfl⟩
  rw [Vu]
  have jx:W2.heap.size=W1.heap.size+3:=by rw [← Vu]; simp
  have eC:=Y3.lt
  have acy:=Y4.lt
  have hB2:Below w.heap.size w W2:=by rw [← Vu]; exact ((X4.alloc X4.size _).alloc (by have:=X4.size; simp; omega) _).alloc (by have:=X4.size; simp; omega) _
  have h42:Boxed W2 (w.heap.size+1) 3 (.int .i64 0):=by rw [← Vu]; exact ((Y3.alloc _).alloc _).alloc _
  have h52:Boxed W2 (w.heap.size+1+1) 67 (.int .i64 0):=by rw [← Vu]; exact ((Y4.alloc _).alloc _).alloc _
  have DK:W2.heap[W1.heap.size]? = some (.cells #[v0,v1,v2,v3,v4,v5] 159 (0,0)):=by
    rw [← Vu]
    exact ((Below.heap_alloc _ _ _ (by simp; omega)).trans (Below.heap_alloc _ _ _ (by simp))).trans (World.alloc_heap_new W1 _)
  have hf2:Boxed W2 (W1.heap.size+1) 3 (.int .i64 day):=by
    rw [← Vu]
    have:=(Boxed.new (W1.alloc (Obj.cells #[v0,v1,v2,v3,v4,v5] 159)) 3 (.int .i64 day)).alloc (Obj.cells #[Value.int IntKind.i64 last] 3)
    simpa using this
  have ht2:Boxed W2 (W1.heap.size+2) 3 (.int .i64 last):=by
    rw [← Vu]
    have:=Boxed.new ((W1.alloc (Obj.cells #[v0,v1,v2,v3,v4,v5] 159)).alloc (Obj.cells #[Value.int IntKind.i64 day] 3)) 3 (.int .i64 last)
    simpa using this
  have DI:∀ (x y:List Int→Int→Prop) (s:List Int) (W W':World) (row:Option Nat),(∃ q,x s q∧Boxed W (w.heap.size+1) 3 (.int .i64 q)∧Boxed W (w.heap.size+1+1) 67 (.int .i64 0)∧Below w.heap.size w W)→W.grownBy W' row→(∀ r,row=some r→W2.heap.size≤r∧∃ o:Obj,W.heap[r]? = some o∧o.isCells=false) →
      ∃ q,x s q∧Boxed W' (w.heap.size+1) 3 (.int .i64 q)∧Boxed W' (w.heap.size+1+1) 67 (.int .i64 0)∧Below w.heap.size w W':=by
    rintro x y s W W' row ⟨q,hq,b4,b5,hB⟩ N9 hr
    exact ⟨q,hq,b4.kept N9 (fun e=>by have:=(hr _ e.symm).1; omega),b5.kept N9 (fun e=>by have:=(hr _ e.symm).1; omega),hB.grown N9 hB.size (fun k e=>by have:=(hr k e).1; omega)⟩
  refine wpIn_rangeFunc_ownF (F:=Fence.wide) (n:=4) (P:=Tryz.prog) rfl (by decide) (gf:=232) (lb:=#[.pointer (some ⟨W1.heap.size+1,0,none⟩),.pointer (some ⟨W1.heap.size+2,0,none⟩),.pointer (some ⟨W1.heap.size,0,none⟩)]) (by rw [htm]; rfl) trivial (enters_of Tryz.func232 (by kernel_rfl) rfl)
    (encs:=fun x:Int=>#[.int .i64 x]) (Kp:=Below (W1.heap.size+3)) (S:=fun xs=>xs=fb c (last - day+1).toNat day) (Sp:=fun pre=>pre <+: fb c (last - day+1).toNat day) (N:=(fb c (last - day+1).toNat day).length) (w0:=W2) ?seq belowK_t (belowK_b (by omega)) (Below.refl _ _) (fun _=>rfl)
    (fun pre W=>∃ q,(pre=[]∧q=0)∧Boxed W (w.heap.size+1) 3 (.int .i64 q)∧Boxed W (w.heap.size+1+1) 67 (.int .i64 0)∧Below w.heap.size w W)
    (fun cd pre W=>∃ q,(cd=.ret∧pre=[q])∧Boxed W (w.heap.size+1) 3 (.int .i64 q)∧Boxed W (w.heap.size+1+1) 67 (.int .i64 0)∧Below w.heap.size w W)
    (fun s W W' row=>DI (fun pre q=>pre=[]∧q=0) (fun _ _=>True) s W W' row) (fun cd s W W' row=>DI (fun pre q=>cd=.ret∧pre=[q]) (fun _ _=>True) s W W' row) ⟨0,⟨rfl,rfl⟩,h42,h52,hB2⟩
    (fun x=>{ tmps:=tm (.int .i64 x) (.int .i64 x),defers:=[] }) ?assign ?body ?done ?stop
  case seq =>
    intro l J Jx W hW hJ hJx hY h0
    have hBW:Below w.heap.size w W:=hB2.trans (hW.mono (by have:=hB2.size; omega))
    have cc:∀ j,W.cell? ⟨W1.heap.size,j,none⟩ = #[v0,v1,v2,v3,v4,v5][j]?:=fun j=>by rw [gz W _ j _ _ _ ((hW.block _ (by omega)).trans DK)]
    exact Xl l (W1.heap.size+1) (W1.heap.size+2) W1.heap.size (W1.heap.size+3) W.heap.size c day last v0 v1 v2 v3 v4 v5 S J Jx PO ZT (fun b h=>by have:=hb b h; have:=X4.size; omega) (by omega) (by omega) (by omega) hJ hY W (by have:=hW.size; omega)
      (hg.mono (fun _ h=>h) (fun b h=>hBW.block b (hb b h))) (hR.mono (fun _ h=>h) (fun b h=>hBW.block b (hb b h))) ((hW.cell (p:=⟨W1.heap.size+1,0,none⟩) (by simp; omega)).trans hf2.cell) ((hW.cell (p:=⟨W1.heap.size+2,0,none⟩) (by simp; omega)).trans ht2.cell) (cc 0) (cc 1) (cc 2) (cc 3) (cc 4) (cc 5) h0
  case assign =>
    intro l x W K hK
    subst htm
    gi_wp2
    exact hK
  case body =>
    rintro l pre x W ⟨q,⟨rfl,rfl⟩,b4,b5,hB⟩ _
    subst htm
    have c4:=b4.cell
    have f4:=b4.frozen
    have c5:=b5.cell
    have f5:=b5.frozen
    gi_wp2
    have q4:=b4.set (.int .i64 x)
    have q5:=(b5.other (B':=w.heap.size+1) (by omega) (.int .i64 x)).set (.int .i64 0)
    have q4':=q4.other (B':=w.heap.size+1+1) (by omega) (.int .i64 0)
    exact ⟨(KeepsOthers.setCell _ _ _).trans (KeepsOthers.setCell _ _ _),x,⟨rfl,rfl⟩,q4',q5,(hB.setCell (p:=⟨w.heap.size+1,0,none⟩) (by simp) _).setCell (p:=⟨w.heap.size+1+1,0,none⟩) (by simp; omega) _⟩
  case done =>
    rintro D xs W hD hx ⟨q,⟨rfl,rfl⟩,b4,b5,hB⟩ hK
    exact acw hx.symm D W (by omega) b4 b5 hB hK
  case stop =>
    rintro D cd pre W hD ⟨t,hp⟩ ⟨q,⟨rfl,rfl⟩,b4,b5,hB⟩ hK
    exact acx q D W (by rw [← hp]; rfl) (by omega) b4 b5 hB hK

theorem Ex (c:jA) (day:Int):gr Tryz.prog 193 [av c.cells,iv day] [] (.fL [iv (dY c day).1,iv (dY c day).2]) []:=by
  refine ⟨by kernel_rfl,fun w S μ vs hb hg hr _ _=>?_⟩
  obtain ⟨v0,v1,v2,v3,v4,v5,rfl,hR⟩:∃ v0 v1 v2 v3 v4 v5:Value,vs = #[.agg #[v0,v1,v2,v3,v4,v5],.int .i64 day]∧Rd w S (.agg c.cells) (.agg #[v0,v1,v2,v3,v4,v5]):=by
    obtain ⟨hl,h⟩:=hr fun _=>false
    have h0:=iD.1 (h 0 (by simp))
    have h1:=ee (h 1 (by simp))
    match vs,hl with
    | ⟨[a,b]⟩,_ =>
      simp only [List.getD_cons_zero,List.getD_cons_succ] at h0 h1
      subst h1
      cases h0 with
      | agg _ xs hx hh =>
        match xs,hx with
        | ⟨[x0,x1,x2,x3,x4,x5]⟩,_=>exact ⟨x0,x1,x2,x3,x4,x5,rfl,.agg _ _ rfl hh⟩
  refine callsIn_wide.1 (callsIn_of_wp_marks (n:=4) Tryz.func193 rfl trivial ?_ rfl)
  simp only [Tryz.ntmps193,List.size_toArray,List.length_cons,List.length_nil,Nat.reduceAdd,Nat.reduceSub,Array.replicate_succ,Array.replicate_zero,List.push_toArray,List.append_toArray,List.nil_append,List.cons_append]
  obtain ⟨W0,hW0⟩:∃ W0,((w.alloc (Obj.cells #[v0,v1,v2,v3,v4,v5] 159)).alloc (Obj.cells #[Value.int IntKind.i64 0] 3)).alloc (Obj.cells #[Value.int IntKind.i64 0] 67)=W0:=⟨_,rfl⟩
  have ae9:W0.heap.size=w.heap.size+3:=by rw [← hW0]; simp
  have hB0:Below w.heap.size w W0:=by rw [← hW0]; exact (((Below.refl _ w).alloc (Nat.le_refl _) _).alloc (by simp) _).alloc (by simp; omega) _
  have VK:W0.heap[w.heap.size]? = some (.cells #[v0,v1,v2,v3,v4,v5] 159 (0,0)):=by
    rw [← hW0]
    exact ((Below.heap_alloc _ _ _ (by simp; omega)).trans (Below.heap_alloc _ _ _ (by simp))).trans (World.alloc_heap_new w _)
  have h4:Boxed W0 (w.heap.size+1) 3 (.int .i64 0):=by
    rw [← hW0]
    have:=(Boxed.new (w.alloc (Obj.cells #[v0,v1,v2,v3,v4,v5] 159)) 3 (.int .i64 0)).alloc (Obj.cells #[Value.int IntKind.i64 0] 67)
    simpa using this
  have h5:Boxed W0 (w.heap.size+1+1) 67 (.int .i64 0):=by
    rw [← hW0]
    have:=Boxed.new ((w.alloc (Obj.cells #[v0,v1,v2,v3,v4,v5] 159)).alloc (Obj.cells #[Value.int IntKind.i64 0] 3)) 67 (.int .i64 0)
    simpa using this
  have Ws:=Qa day W0 S (fun b h=>by have:=hb b h; omega) (hg.mono (fun _ h=>h) (fun b h=>hB0.block b (hb b h)))
  gi_wp2
  refine ⟨trivial,(callsIn_wide.2 Ws).mono ?_⟩
  rintro e W1 ⟨rfl,N9⟩
  have X4:Below w.heap.size w W1:=hB0.trans ⟨N9.os,N9.tape,N9.output,N9.size,fun k hk=>N9.block k (by omega) (by simp)⟩
  have L4:W1.heap[w.heap.size]? = some (.cells #[v0,v1,v2,v3,v4,v5] 159 (0,0)):=(N9.block _ (by omega) (by simp)).trans VK
  have Y3:=h4.kept N9 (by simp)
  have Y4:=h5.kept N9 (by simp)
  have h4c:=Y3.cell
  have h4f:=Y3.frozen
  have h5c:=Y4.cell
  have h5f:=Y4.frozen
  cases hv:fa day with
  | false =>
    gi_wp2
    have q4:=Y3.set (.int .i64 0)
    have q5:=(Y4.other (B':=w.heap.size+1) (by omega) (.int .i64 0)).set (.int .i64 3)
    have q4':=q4.other (B':=w.heap.size+1+1) (by omega) (.int .i64 3)
    refine ⟨_,results193 _ _ _ _ 0 3 rfl rfl q4'.cell q5.cell,?_⟩
    have e:dY c day=(0,3):=by simp [dY,hv]
    rw [e]
    exact Ew hb ((X4.setCell (p:=⟨w.heap.size+1,0,none⟩) (by simp) _).setCell (p:=⟨w.heap.size+1+1,0,none⟩) (by simp; omega) _)
  | true =>
    have e0:W1.cell? ⟨w.heap.size,0,none⟩=some v0:=by rw [gz W1 _ 0 _ _ _ L4]; rfl
    have e1:W1.cell? ⟨w.heap.size,1,none⟩=some v1:=by rw [gz W1 _ 1 _ _ _ L4]; rfl
    have e2:W1.cell? ⟨w.heap.size,2,none⟩=some v2:=by rw [gz W1 _ 2 _ _ _ L4]; rfl
    have e3:W1.cell? ⟨w.heap.size,3,none⟩=some v3:=by rw [gz W1 _ 3 _ _ _ L4]; rfl
    have e4:W1.cell? ⟨w.heap.size,4,none⟩=some v4:=by rw [gz W1 _ 4 _ _ _ L4]; rfl
    have e5:W1.cell? ⟨w.heap.size,5,none⟩=some v5:=by rw [gz W1 _ 5 _ _ _ L4]; rfl
    have PO:0≤day∧day≤100000:=by simpa [fa,ji] using hv
    have LB:au (day+400)=day+400:=aG (by omega) (by omega)
    gi_wp2
    all_goals (refine ⟨trivial,(Y2 v0 v1 v2 v3 v4 v5 day _ W1).mono ?_⟩; rintro e W2 ⟨rfl,rfl⟩; gi_wp2; refine Xm c day _ _ v0 v1 v2 v3 v4 v5 w W1 S _ (by omega) ?_ hb hg hR X4 Y3 Y4 _ rfl ?_ ?_)
    all_goals first
      | omega
      | (intro Og D W hD b4 b5 hB hK
         have c4:=b4.cell
         have f4:=b4.frozen
         have c5:=b5.cell
         have f5:=b5.frozen
         gi_wp2
         have q4:=(b4.set (.int .i64 0)).other (B':=w.heap.size+1+1) (by omega) (.int .i64 3)
         have q5:=(b5.other (B':=w.heap.size+1) (by omega) (.int .i64 0)).set (.int .i64 3)
         have eC:=Y3.lt
         have acy:=Y4.lt
         have hK':=((KeepsOthers.setCell W ⟨w.heap.size+1,0,none⟩ (.int .i64 0)).trans (KeepsOthers.setCell _ ⟨w.heap.size+1+1,0,none⟩ (.int .i64 3))).same D _ hK rfl
         have hB':=(hB.setCell (p:=⟨w.heap.size+1,0,none⟩) (by simp) (.int .i64 0)).setCell (p:=⟨w.heap.size+1+1,0,none⟩) (by simp; omega) (.int .i64 3)
         refine ⟨by simp,.inl ⟨_,_,rfl,run_takeDeferred hK',?_⟩⟩
         refine ⟨_,results193 _ _ _ _ 0 3 rfl rfl (q4.kept (grownBy_putObj' _ D _) (fun e=>by cases e; omega)).cell (q5.kept (grownBy_putObj' _ D _) (fun e=>by cases e; omega)).cell,?_⟩
         have e:dY c day=(0,3):=by
           simp only [dY,hv,Ac,← vn]
           first
             | (rw [show min (au (day+400)) 100000=100000 from by rw [LB]; omega,Og]; rfl)
             | (rw [show min (au (day+400)) 100000=day+400 from by rw [LB]; omega,Og]; rfl)
             | (rw [LB,Og]; rfl)
             | (rw [Og]; rfl)
         rw [e]
         exact Ew hb (hB'.grown (grownBy_putObj' _ D _) hB'.size (fun k e=>by cases e; have:=X4.size; omega)))
      | (intro x D W hx hD b4 b5 hB hK
         gi_wp2
         have eC:=Y3.lt
         have acy:=Y4.lt
         refine ⟨by simp,.inl ⟨_,_,rfl,run_takeDeferred hK,?_⟩⟩
         refine ⟨_,results193 _ _ _ _ x 0 rfl rfl (b4.kept (grownBy_putObj' _ D _) (fun e=>by cases e; omega)).cell (b5.kept (grownBy_putObj' _ D _) (fun e=>by cases e; omega)).cell,?_⟩
         have e:dY c day=(x,0):=by
           simp only [dY,hv,Ac,← vn]
           first
             | (rw [show min (au (day+400)) 100000=100000 from by rw [LB]; omega,hx]; rfl)
             | (rw [show min (au (day+400)) 100000=day+400 from by rw [LB]; omega,hx]; rfl)
             | (rw [LB,hx]; rfl)
             | (rw [hx]; rfl)
         rw [e]
         exact Ew hb (hB.grown (grownBy_putObj' _ D _) hB.size (fun k e=>by cases e; have:=X4.size; omega)))
theorem Fb (c:jA):∀ (n:Nat) (d x:Int),tY c n d=some x→d≤x∧x < d+n
  | 0,_,_,h=>by simp [tY] at h
  | n+1,d,x,h=>by
    simp only [tY] at h
    cases ho:fX c d with
    | true=>rw [ho] at h; simp only [cond_true,Option.some.injEq] at h; omega
    | false=>rw [ho] at h; have:=Fb c n (d+1) x h; omega
theorem BH (c:jA) (day:Int):(fun (x:Int × Int)=>x.2=0→day≤x.1∧x.1≤100000) (dY c day):=by
  dsimp only
  unfold dY
  cases hv:fa day with
  | false=>intro h; exact absurd (show (3:Int)=0 from h) (by decide)
  | true =>
    simp only [Bool.not_true,cond_false]
    cases hd:Ac c day (min (au (day+400)) 100000) with
    | none=>intro h; exact absurd (show (3:Int)=0 from h) (by decide)
    | some d =>
      intro _
      have:=Fb c _ _ _ hd
      simp only
      omega
def kR (c:jA) (day:Int):gm (Int × Int):=⟨Tryz.prog,193,[av c.cells,iv day],fun x=>.fL [iv x.1,iv x.2],true,dY c day,True,fun _=>Ex c day,fun x=>x.2=0→day≤x.1∧x.1≤100000,BH c day⟩
end
section
open Go Go.Av
def iP (r:ah) (bZ:Int) (day:Int):Sk (Int × Int) :=
 .r 1 ((cI r bZ).c) fun x1 =>
 .loop (default:Int × Int) (fun i2=>(0:Int)≤i2∧i2≤100001) (fun i2=>(100001 - i2).toNat) (day:Int)
 (fun (i2:Int)=>⟨[(2,iv i2)],[]⟩) fun i2 =>
 .r 2 ((xu r x1 i2).c) fun x3 =>
 .r 3 (.aq (.p (bG bZ r.aI.length)) ((kR (r.aI.getD bZ.toNat default) x3).c)) fun x4 =>
 .br (x4.2 != 0)
 (.fin (.inl (0,3)))
 (.br (x4.1 == x3)
 (.fin (.inl (x3,0)))
 (.fin (.inr x4.1)))
def De r bZ day:=(iP r bZ day).val
theorem Ey (r:ah) (bZ:Int) (day:Int) (hP:(0≤bZ∧bZ < (r.aI.length:Int))∧(0≤day∧day≤100001)∧r.dQ):(iP r bZ day).cZ (fun (x:Int × Int)=>x.2=0→0≤x.1∧x.1≤100001):=by
 refine Sk.bp _ ?_
 unfold iP
 simp only [Sk.cU,Sk.aO,reduceCtorEq,ON,kk,kp,kR,cI,xu,ah.dQ,maxLen]
 obtain ⟨hc,hd,hh⟩:=hP
 intro _ _
 refine ⟨hd,fun i hi y hy hyp x hx hxp=>⟨fun _ h=>absurd h (by decide),fun he=>⟨fun hq=>?_,fun hq=>⟨?_,?_⟩⟩⟩⟩
 all_goals have h2:=hyp ⟨hh,hi⟩
 all_goals simp only [LN] at he hq
 all_goals have h3:=hxp he
 all_goals omega
theorem Df (r:ah) (bZ:Int) (day:Int):(fun (x:Int × Int)=>((0≤bZ∧bZ < (r.aI.length:Int))∧(0≤day∧day≤100001)∧r.dQ)→(x.2=0→0≤x.1∧x.1≤100001)) (De r bZ day):=fun hP=>Sk.de _ (Ey r bZ day hP)
theorem F6 (r:ah) (bZ:Int) (day:Int) (hc:0≤bZ∧bZ < (r.aI.length:Int)) (hd:0≤day∧day≤100001) (hh:r.dQ):(iP r bZ day).bz (fun _=>True):=by
 simp only [ah.dQ] at hh
 unfold iP
 try simp only [kR,cI,xu,ah.dQ]
 exact oh
def tZ r bZ day:=kk tok mixed Tryz.func142 [av r.cells,iv bZ,iv day] (fun x=>.fL [iv x.1,iv x.2]) true (iP r bZ day) (De r bZ day) (u3 (F6 r bZ day)) (fun (x:Int × Int)=>((0≤bZ∧bZ < (r.aI.length:Int))∧(0≤day∧day≤100001)∧r.dQ)→(x.2=0→0≤x.1∧x.1≤100001)) (Df r bZ day)
def pO (r:ah) (b:qc) (seen:Int) (rP:Int):Sk (Int × Int) :=
 .r 2 (.dep ((vl r).c) fun x1=>.dep (.wh (x1 != 0) false ((pK r b.bZ).c)) fun x2=>.dep (.wh ((x1 != 0)||(!x2)) false ((pK r b.yk).c)) fun x3=>.wh (((x1 != 0)||(!x2))||(!x3)) false ((nB b.day).c)) fun RV =>
 .br ((((RV.1 != 0)||(!RV.2.1))||(!RV.2.2.1))||(!RV.2.2.2))
 (.fin (0,1))
 (.br ((((decide (b.cR.kind < 0))||(decide (b.cR.kind≥5)))||(decide (b.cR.unit < 0)))||(decide (b.cR.unit≥2)))
 (.fin (0,1))
 (.r 6 (.wh (seen != (-1)) true ((nB seen).c)) fun x5 =>
 .br ((((seen != (-1))&&(!x5))||(decide (rP < 0)))||(decide (rP > 20000)))
 (.fin (0,1))
 (.r 8 ((tX b.cR).c) fun x6 =>
 .br (x6&&(seen == (-1)))
 (.fin (0,4))
 (.r 10 ((xt r b seen).c) fun x7 =>
 .br (x7.2 != 0)
 (.fin (0,x7.2))
 (.r 13 ((nB x7.1).c) fun x8 =>
 .br ((!x8)||(decide ((au (x7.1+rP)) > 100000)))
 (.fin (0,3))
 (.r 15 ((tZ r b.yk (au (x7.1+rP))).c) fun x9 =>
 .fin (x9.1,x9.2)))))))
def LC r b seen rP:=(pO r b seen rP).val
theorem KN (r:ah) (b:qc) (seen:Int) (rP:Int):(pO r b seen rP).cZ (fun (x:Int × Int)=>x.2=0→0≤x.1∧x.1≤100001):=by
 refine Sk.bp _ ?_
 unfold pO
 simp only [Sk.cU,Sk.aO,reduceCtorEq,ON,kk,kp,vl,tX,xt,pK,nB,tZ,xU,xT,zu,forall_eq,al.Small,ah.Small,ah.dQ,maxLen]
 intro hr
 refine ⟨fun _ h=>absurd h (by decide),fun h1=>⟨fun _ h=>absurd h (by decide),fun _=>⟨fun _ h=>absurd h (by decide),fun h3=>⟨fun _ h=>absurd h (by decide),fun _=>⟨fun h h'=>by rw [h'] at h; exact absurd h (by decide),fun h4=>⟨fun _ h=>absurd h (by decide),fun h5 himp=>?_⟩⟩⟩⟩⟩⟩
 simp only [LN] at h1 h5
 have e:∀ x g:Int,0≤x∧x≤100000→0≤g∧g≤20000→0≤au (x+g):=fun x g h1 h2=>by rw [aG (by omega) (by omega)]; omega
 have h6:0≤rP∧rP≤20000:=by simp only [LN] at h3; omega
 refine himp ⟨by omega,⟨e _ _ h5.1 h6,by omega⟩,hr h1.1.1.1⟩
theorem Nc (r:ah) (b:qc) (seen:Int) (rP:Int) (bN:r.Small):(pO r b seen rP).bz (fun _=>True):=by
 simp only [al.Small,ah.Small,ah.dQ] at bN
 unfold pO
 try simp only [vl,tX,xt,pK,nB,tZ,xU,xT,zu,al.Small,ah.Small,ah.dQ]
 exact yj
def Fc r b seen rP:=kp tok mixed Tryz.func100 [av r.cells,av b.cells,iv seen,iv rP] (fun x=>.fL [iv x.1,iv x.2]) true (LC r b seen rP) (Nc r b seen rP) (KN r b seen rP)
def nU (r:ah) (forum:Int) (f:al) (day:Int):Sk (Int) :=
 .r 1 ((ch f day).c) fun x1 =>
 .br (((x1.af.length:Nat):Int) == 0)
 (.fin (-1))
 (.r 4 (.dep ((ot r forum 6 x1 day).c) fun x2=>(mH x2).c) fun p7 =>
 .r 5 (.dep ((nz x1).c) fun x4=>(Fc r x1.aR x4 (cg p7.2 0)).c) fun p6 =>
 .br (p6.2.2 != 0)
 (.fin (-1))
 (.fin p6.2.1))
def cb r forum f day:=(nU r forum f day).val
theorem F7 (r:ah) (forum:Int) (f:al) (day:Int) (bM:f.Small) (cu:r.cG) (bN:r.Small):(nU r forum f day).bz (fun _=>True):=by
 simp only [al.Small,ah.Small,ah.cG] at bM
 simp only [al.Small,ah.Small,ah.cG] at cu
 simp only [al.Small,ah.Small,ah.cG] at bN
 unfold nU
 try simp only [ot,mH,ch,nz,Fc,al.Small,ah.Small,ah.cG]
 exact oh
def cK r forum f day:=kk tok mixed Tryz.func53 [av r.cells,iv forum,av f.cells,iv day] (fun x=>iv x) true (nU r forum f day) (cb r forum f day) (u3 (F7 r forum f day))
theorem Fe (r:ah) (fo:Int) (f:al) (day:Int):cb r fo f day = 
  bif ((ai f day).af.length:Int) == 0 then -1 else (fun p:Int × Int=>bif p.2 != 0 then -1 else p.1) (LC r (ai f day).aR (lX (ai f day)) (cg (qB (rN r fo 6 (ai f day) day)) 0)):=by
 kernel_rfl
def qG (r:ah) (forum:Int) (f:al) (day:Int):Sk (eu × Bool) :=
 .br ((decide (forum < 0))||(decide (forum≥((r.aE.length:Nat):Int))))
 (.fin (({ view:=({ all:=({ aR:=({ Bo:=0,mZ:=0,kq:=0,sum:=0,az:=0,cR:=({ kind:=0,n:=0,unit:=0 }:rD),day:=0,bZ:=0,yk:=0,need:=0,lf:=0,flags:=0,parts:=0 }:qc),af:=[],aN:=[],aA:=[],facts:=[] }:al),now:=({ aR:=({ Bo:=0,mZ:=0,kq:=0,sum:=0,az:=0,cR:=({ kind:=0,n:=0,unit:=0 }:rD),day:=0,bZ:=0,yk:=0,need:=0,lf:=0,flags:=0,parts:=0 }:qc),af:=[],aN:=[],aA:=[],facts:=[] }:al),day:=0,lead:=[] }:View),r:=({ ck:=[],aI:=[],fP:=[],bm:=[],aE:=[],aM:=[],bE:=[],ep:=[] }:ah),forum:=0,due:=0 }:eu),false))
 (.r 3 (.dep ((Bv f day).c) fun _=>(cK r forum f day).c) fun p3 =>
 .fin (({ view:=p3.1,r:=r,forum:=forum,due:=p3.2 }:eu),true))
def aC r forum f day:=(qG r forum f day).val
theorem Ff (r:ah) (forum:Int) (f:al) (day:Int):(qG r forum f day).cZ (fun (x:eu × Bool)=>x.2=true→x.1=⟨aB f day,r,forum,cb r forum f day⟩∧0≤forum∧forum < (r.aE.length:Int)):=by
 unfold qG
 try simp only [cK,Bv,al.Small,ah.Small,ah.cG]
 exact DB
theorem Dg (r:ah) (forum:Int) (f:al) (day:Int):(fun (x:eu × Bool)=>x.2=true→x.1=⟨aB f day,r,forum,cb r forum f day⟩∧0≤forum∧forum < (r.aE.length:Int)) (aC r forum f day):=have h:=Sk.de _ (Ff r forum f day); h
theorem Sh (r:ah) (forum:Int) (f:al) (day:Int) (bM:f.Small) (cu:r.cG) (bN:r.Small):(qG r forum f day).bz (fun _=>True):=by
 simp only [al.Small,ah.Small,ah.cG] at bM
 simp only [al.Small,ah.Small,ah.cG] at cu
 simp only [al.Small,ah.Small,ah.cG] at bN
 unfold qG
 try simp only [cK,Bv,al.Small,ah.Small,ah.cG]
 exact oh
def Ez r forum f day:=kp tok mixed Tryz.func23 [av r.cells,iv forum,av f.cells,iv day] (fun x=>.fL [av x.1.cells,bv x.2]) false (aC r forum f day) (u3 (Sh r forum f day)) (Ff r forum f day)
structure cC where
 sign:Int
 kind:Int
 fA:Int
 binds:Int
 text:Int
 sum:Int
 eI:Bool
 deriving Inhabited
def cC.cells (c:cC):List D:=[dI c.sign,dI c.kind,dI c.fA,dI c.binds,dI c.text,dI c.sum,dB c.eI]
def cC.E:Pk cC:=⟨cC.cells,7,fun _=>rfl,fun _=>rfl⟩
structure kS where
 r:ah
 forum:Int
 day:Int
 f:al
 form:Int
 due:Int
 deriving Inhabited
def kS.cells (c:kS):List D:=c.r.cells++[dI c.forum,dI c.day]++c.f.cells++[dI c.form,dI c.due]
def xw (s:lV):Sk (Int) :=
 .br (s.err != 0)
 (.fin 0)
 (.br (!s.cell.known)
 (.fin 2)
 (.br (s.cell.n != 0)
 (.fin 1)
 (.fin 0)))
def iz s:=(xw s).val
theorem Si (s:lV):(xw s).bz (fun _=>True):=by
 unfold xw
 exact pq
def fp s:=kk tok mixed Tryz.func70 [av s.cells] (fun x=>iv x) true (xw s) (iz s) (u0 (Si s))
def pP (r:ah) (forum:Int) (f:al) (day:Int):Sk (kS) :=
 .r 1 ((ch f day).c) fun x1 =>
 .r 2 (.dep ((ot r forum 0 x1 day).c) fun x2=>.dep ((fp x2).c) fun _=>(cK r forum x1 day).c) fun p5 =>
 .fin ({ r:=r,forum:=forum,day:=day,f:=x1,form:=p5.2.1,due:=p5.2.2 }:kS)
def gS r forum f day:=(pP r forum f day).val
theorem A7 (r:ah) (forum:Int) (f:al) (day:Int):(pP r forum f day).cZ (fun (x:kS)=>x.f=ai f day∧x.r=r):=by
 unfold pP
 try simp only [ot,cK,fp,ch,al.Small,ah.Small,ah.cG]
 exact DB
theorem IZ (r:ah) (forum:Int) (f:al) (day:Int):(fun (x:kS)=>x.f=ai f day∧x.r=r) (gS r forum f day):=have h:=Sk.de _ (A7 r forum f day); h
theorem Nd (r:ah) (forum:Int) (f:al) (day:Int) (bM:f.Small) (cu:r.cG) (bN:r.Small):(pP r forum f day).bz (fun _=>True):=by
 simp only [al.Small,ah.Small,ah.cG] at bM
 simp only [al.Small,ah.Small,ah.cG] at cu
 simp only [al.Small,ah.Small,ah.cG] at bN
 unfold pP
 try simp only [ot,cK,fp,ch,al.Small,ah.Small,ah.cG]
 exact oh
def l4 r forum f day:=kp tok mixed Tryz.func54 [av r.cells,iv forum,av f.cells,iv day] (fun x=>av x.cells) false (gS r forum f day) (u3 (Nd r forum f day)) (A7 r forum f day)
def nV (f:al) (day:Int):Sk ((List (Int × Bool))) :=
 .r 1 (.o [.ru (mkM dB)]) fun _ =>
 .bt
 (.loop (default:Sum ((List (Int × Bool))) ((List (Int × Bool)))) (fun i2=>i2.1≤f.aA.length) (fun i2=>f.aA.length - i2.1) ((0,([]:List (Int × Bool))):Nat × (List (Int × Bool)))
 (fun (i2:Nat × (List (Int × Bool)))=>⟨[(12,iv (i2.1:Int))],[(8,mpM dB i2.2)]⟩) fun i2 =>
 .lt 10 0 i2.1 f.aA.length
 (.r 4 (.p (bG (i2.1:Int) f.aA.length)) fun _ =>
 .br ((((f.aA.getD i2.1 default).kind) == 7)&&(decide (((f.aA.getD i2.1 default).day)≤day)))
 (.r 6 (.aq (.t (E4 dB i2.2)) (.o [.ru (YN dB i2.2 ((f.aA.getD i2.1 default).at_) true)])) fun _ =>
 .r 7 .z fun _ =>
 .wi 12 (au ((i2.1:Int)+1)) ((i2.1+1:Nat):Int) <|
 .fin (.inr (i2.1+1,sH i2.2 ((f.aA.getD i2.1 default).at_) true)))
 (.nx 7 12 i2.1 (i2.1+1,i2.2)))
 (.fin (.inl (.inr i2.2))))
 (fun (b1:(List (Int × Bool)))=>⟨[],[(8,mpM dB b1)]⟩) fun b1 =>
 .fin b1
def fc f day:=(nV f day).val
theorem F8 (f:al) (day:Int):(nV f day).bz (fun _=>True):=by
 unfold nV
 exact oh
def pQ f day:=kk tok mixed Tryz.func144 [av f.cells,iv day] (fun x=>pmM dB x) false (nV f day) (fc f day) (u0 (F8 f day))
def nW (f:al) (sign:Int) (day:Int):Sk (Bool) :=
 .r 1 (.o8 (.wh ((decide (sign≥0))&&(decide (sign < ((f.af.length:Nat):Int)))) true ((pQ f day).c)) fun x1=>.wh ((decide (sign≥0))&&(decide (sign < ((f.af.length:Nat):Int)))) true (.aq (.t (E4 dB x1)) (.o [.cast 21 (getM dB x1 sign false)]))) fun x1 =>
 .fin (((decide (sign≥0))&&(decide (sign < ((f.af.length:Nat):Int))))&&(Cu x1 sign false))
def jl f sign day:=(nW f sign day).val
theorem F9 (f:al) (sign:Int) (day:Int):(nW f sign day).bz (fun _=>True):=by
 unfold nW
 try simp only [pQ]
 exact pq
def pR f sign day:=kk tok mixed Tryz.func102 [av f.cells,iv sign,iv day] (fun x=>bv x) true (nW f sign day) (jl f sign day) (u0 (F9 f sign day))
def lL (v:kS) (aU:Int) (sign:Int):Sk (Int) :=
 .r 2 (.dep ((gR v.r v.forum aU ({ file:=v.f,sign:=sign,jD:=sign,jN:=(-1),due:=v.due,day:=v.day }:fw)).c) fun x1=>(fp x1).c) fun p3 =>
 .fin p3.2
def dZ v aU sign:=(lL v aU sign).val
theorem Dh (v:kS) (aU:Int) (sign:Int) (gM:v.f.Small) (l5:v.r.cG) (kr:v.r.Small):(lL v aU sign).bz (fun _=>True):=by
 unfold lL
 try simp only [gR,fp]
 exact oh
def dF v aU sign:=kk tok mixed Tryz.func104 [av v.cells,iv aU,iv sign] (fun x=>iv x) true (lL v aU sign) (dZ v aU sign) (u3 (Dh v aU sign))
def ka (f:al) (i:Int):Sk (Int) :=
 .bind true (fun b1=>f.pv→0≤b1∧b1≤1099511627776)
 (.loop (default:Sum (Int) (Int)) (fun i2=>i2.2≤f.aN.length∧(f.pv→0≤i2.1∧i2.1≤1099511627776)) (fun i2=>f.aN.length - i2.2) ((f.aR.sum,0):Int × Nat)
 (fun (i2:Int × Nat)=>⟨[(5,iv i2.1),(14,iv (i2.2:Int))],[]⟩) fun i2 =>
 .lt 12 0 i2.2 f.aN.length
 (.r 4 (.p (bG (i2.2:Int) f.aN.length)) fun _ =>
 .br (decide (((f.aN.getD i2.2 default).at_)≤i))
 (.nx 7 14 i2.2 ((f.aN.getD i2.2 default).sum,i2.2+1))
 (.nx 7 14 i2.2 (i2.1,i2.2+1)))
 (.fin (.inl (.inr i2.1))))
 (fun (b1:Int)=>⟨[(5,iv b1)],[]⟩) fun b1 =>
 .fin b1
def ku f i:=(ka f i).val
theorem Ga (f:al) (i:Int) (hP:f.pv):(ka f i).cZ (fun (x:Int)=>0≤x∧x≤1099511627776):=by
 refine Sk.bp _ ?_
 unfold ka
 simp only [Sk.cU,Sk.aO,reduceCtorEq,ON,kk,kp,maxLen]
 refine ⟨⟨⟨Nat.zero_le _,fun h=>h.1⟩,fun i hi=>⟨fun hc _=>?_,fun _=>hi.2⟩⟩,fun b hb=>hb hP⟩
 simp only [LN] at hc
 exact ⟨fun _ _=>⟨⟨by omega,fun h=>h.2.1 _ (by omega)⟩,by omega⟩,fun _ _=>⟨⟨by omega,hi.2⟩,by omega⟩⟩
theorem EA (f:al) (i:Int):(fun (x:Int)=>(f.pv)→(0≤x∧x≤1099511627776)) (ku f i):=fun hP=>Sk.de _ (Ga f i hP)
theorem I0 (f:al) (i:Int):(ka f i).bz (fun _=>True):=by
 refine Sk.aX _ ?_
 unfold ka
 simp only [Sk.km,Sk.aO,reduceCtorEq,ON,kk,kp,maxLen]
 refine ⟨⟨Nat.zero_le _,fun h=>h.1⟩,fun i hi hm=>⟨fun hc=>?_,fun _=>hi.2⟩⟩
 simp only [LN] at hc
 have hw:au ((i.2:Int)+1)=((i.2+1:Nat):Int):=(aG (by omega) (by omega)).trans (by omega)
 exact ⟨by omega,fun _=>⟨fun _ _=>⟨hw,⟨by omega,fun h=>h.2.1 _ (by omega)⟩,by omega⟩,fun _ _=>⟨hw,⟨by omega,hi.2⟩,by omega⟩⟩⟩
def rh f i:=kk tok mixed Tryz.func145 [av f.cells,iv i] (fun x=>iv x) true (ka f i) (ku f i) (u0 (I0 f i)) (fun (x:Int)=>(f.pv)→(0≤x∧x≤1099511627776)) (EA f i)
def fg (v:kS) (sign:Int):Sk (Int × Int) :=
 .r 1 ((rh v.f sign).c) fun x1 =>
 .bind true (fun b2=>b2=true→v.f.aN.length≠0)
 (.loop (default:Sum (Int × Int) (Bool)) (fun i3=>i3.2≤v.f.aN.length∧(i3.1=true→v.f.aN.length≠0)) (fun i3=>v.f.aN.length - i3.2) ((false,0):Bool × Nat)
 (fun (i3:Bool × Nat)=>⟨[(7,bv i3.1),(23,iv (i3.2:Int))],[]⟩) fun i3 =>
 .lt 21 0 i3.2 v.f.aN.length
 (.r 6 (.p (bG (i3.2:Int) v.f.aN.length)) fun _ =>
 .r 8 .z fun _ =>
 .wi 23 (au ((i3.2:Int)+1)) ((i3.2+1:Nat):Int) <|
 .fin (.inr (i3.1||(decide (((v.f.aN.getD i3.2 default).at_) > sign)),i3.2+1)))
 (.fin (.inl (.inr i3.1))))
 (fun (b2:Bool)=>⟨[(7,bv b2)],[]⟩) fun b2 =>
 .br (!b2)
 (.fin (0,x1))
 (.r 11 (.p (bG (au (((v.f.aN.length:Nat):Int) - 1)) v.f.aN.length)) fun _ =>
 .r 12 ((dF v 4 sign).c) fun x4 =>
 .br (x4 == 1)
 (.fin (x4,(v.f.aN.getD ((au (((v.f.aN.length:Nat):Int) - 1)).toNat) default).sum))
 (.br (x4 == 2)
 (.fin (x4,bL x1 ((v.f.aN.getD ((au (((v.f.aN.length:Nat):Int) - 1)).toNat) default).sum)))
 (.fin (x4,x1))))
def dn v sign:=(fg v sign).val
theorem BI (v:kS) (sign:Int) (hP:v.f.pv∧v.f.Small):(fg v sign).cZ (fun (x:Int × Int)=>0≤x.2∧x.2≤1099511627776):=by
 refine Sk.bp _ ?_
 unfold fg
 simp only [Sk.cU,Sk.aO,reduceCtorEq,ON,kk,kp,dF,rh,maxLen]
 intro x _ hx
 have hx:=hx hP.1
 refine ⟨⟨Nat.zero_le _,fun i hi=>⟨fun hc _ _=>?_,fun _=>hi.2⟩⟩,fun b hb=>⟨fun _=>hx,fun wK _ y _=>?_⟩⟩
 ·simp only [LN] at hc
  exact ⟨⟨by omega,fun _=>by omega⟩,by omega⟩
 ·have hn:=hb (by simpa using wK)
  have hl:=hP.2.2.1
  rw [aG (by omega) (by omega)]
  obtain ⟨h1,h2⟩:=hP.1.2.1 ((v.f.aN.length:Int) - 1).toNat (by omega)
  refine ⟨fun _=>⟨h1,h2⟩,fun _=>⟨fun _=>?_,fun _=>hx⟩⟩
  unfold bL
  split <;> omega
theorem AE (v:kS) (sign:Int):(fun (x:Int × Int)=>(v.f.pv∧v.f.Small)→(0≤x.2∧x.2≤1099511627776)) (dn v sign):=fun hP=>Sk.de _ (BI v sign hP)
theorem Di (v:kS) (sign:Int) (gM:v.f.Small) (l5:v.r.cG) (kr:v.r.Small):(fg v sign).bz (fun _=>True):=by
 refine Sk.aX _ ?_
 unfold fg
 simp only [Sk.km,Sk.aO,reduceCtorEq,ON,kk,kp,dF,rh,maxLen]
 intro x _ _
 refine ⟨⟨Nat.zero_le _,fun i hi hm=>⟨fun hc=>?_,fun _=>hi.2⟩⟩,fun b hb wK=>?_⟩
 ·simp only [LN] at hc
  exact ⟨by omega,fun _ _=>⟨(aG (by omega) (by omega)).trans (by omega),⟨by omega,fun _=>by omega⟩,by omega⟩⟩
 ·have hn:=hb (by simpa using wK)
  have hl:=gM.2.1
  rw [aG (by omega) (by omega)]
  exact ⟨by omega,fun _=>⟨gM,l5,kr⟩⟩
def mL v sign:=kk tok mixed Tryz.func105 [av v.cells,iv sign] (fun x=>.fL [iv x.1,iv x.2]) true (fg v sign) (dn v sign) (u3 (Di v sign)) (fun (x:Int × Int)=>(v.f.pv∧v.f.Small)→(0≤x.2∧x.2≤1099511627776)) (AE v sign)
def dT (v:kS) (sign:Int):Sk (cC) :=
 .r 1 (.p (bG sign v.f.af.length)) fun _ =>
 .r 3 ((pR v.f sign v.day).c) fun x1 =>
 .bind false (fun _=>True)
 (.br (!x1)
 (.r 4 (.dep ((dF v 1 sign).c) fun x3=>.dep ((dF v 2 sign).c) fun x4=>.aq (.o [.fU (gA eA [v.form,x3,x4])]) ((oJ [v.form,x3,x4]).c)) fun p6 =>
 .fin (.inr p6.2.2))
 (.fin (.inr 0)))
 (fun (b2:Int)=>⟨[],[(6,.box [iv sign,iv ((v.f.af.getD sign.toNat default).kind),iv ((v.f.af.getD sign.toNat default).dt),iv b2,iv 0,iv 0,bv ((((v.f.af.getD sign.toNat default).kind) != 1)&&((dP .i64 ((v.f.af.getD sign.toNat default).flags) 1) == 0))])]⟩) fun b2 =>
 .r 5 ((mL v sign).c) fun x7 =>
 .br ((((v.f.af.getD sign.toNat default).kind) == 1)||(((v.f.af.getD sign.toNat default).kind) == 4))
 (.fin ({ sign:=sign,kind:=(v.f.af.getD sign.toNat default).kind,fA:=(v.f.af.getD sign.toNat default).dt,binds:=b2,text:=x7.1,sum:=bL x7.2 ((v.f.af.getD sign.toNat default).sum),eI:=(((v.f.af.getD sign.toNat default).kind) != 1)&&((dP .i64 ((v.f.af.getD sign.toNat default).flags) 1) == 0) }:cC))
 (.fin ({ sign:=sign,kind:=(v.f.af.getD sign.toNat default).kind,fA:=(v.f.af.getD sign.toNat default).dt,binds:=b2,text:=x7.1,sum:=x7.2,eI:=(((v.f.af.getD sign.toNat default).kind) != 1)&&((dP .i64 ((v.f.af.getD sign.toNat default).flags) 1) == 0) }:cC))
def bR v sign:=(dT v sign).val
theorem zy (v:kS) (sign:Int) (hP:v.f.pv∧v.f.Small∧0≤sign∧sign < (v.f.af.length:Int)):(dT v sign).cZ (fun (x:cC)=>0≤x.sum∧x.sum≤1099511627776):=by
 refine Sk.bp _ ?_
 unfold dT
 simp only [Sk.cU,Sk.aO,reduceCtorEq,ON,kk,kp,oJ,dF,mL,pR,maxLen]
 intro _ x _ b _ y _ hy
 have hy:=hy ⟨hP.1,hP.2.1⟩
 obtain ⟨h1,h2⟩:=hP.1.2.2.1 sign.toNat (by omega)
 exact ⟨fun _=>by unfold bL; split <;> omega,fun _=>hy⟩
theorem yc (v:kS) (sign:Int):(fun (x:cC)=>(v.f.pv∧v.f.Small∧0≤sign∧sign < (v.f.af.length:Int))→(0≤x.sum∧x.sum≤1099511627776)) (bR v sign):=fun hP=>Sk.de _ (zy v sign hP)
theorem AF (v:kS) (sign:Int) (hs:0≤sign∧sign < (v.f.af.length:Int)) (gM:v.f.Small) (l5:v.r.cG) (kr:v.r.Small):(dT v sign).bz (fun _=>True):=by
 unfold dT
 try simp only [oJ,dF,mL,pR]
 exact oh
def eB v sign:=kk tok mixed Tryz.func55 [av v.cells,iv sign] (fun x=>av x.cells) true (dT v sign) (bR v sign) (u4 (AF v sign)) (fun (x:cC)=>(v.f.pv∧v.f.Small∧0≤sign∧sign < (v.f.af.length:Int))→(0≤x.sum∧x.sum≤1099511627776)) (yc v sign)
def iQ (r:ah) (forum:Int) (f:al) (day:Int):Sk ((List cC)) :=
 .r 1 ((l4 r forum f day).c) fun x1 =>
 .bind true (fun b2=>b2.length=x1.f.af.length)
 (.loop (default:Sum ((List cC)) ((List cC))) (fun i3=>i3.2≤x1.f.af.length∧i3.1.length=i3.2) (fun i3=>x1.f.af.length - i3.2) (([],0):(List cC) × Nat)
 (fun (i3:(List cC) × Nat)=>⟨[(10,ow 100002 i3.1),(21,iv (i3.2:Int))],[(100002,bO 131 7 cC.cells i3.1)]⟩) fun i3 =>
 .lt 9 25 i3.2 x1.f.af.length
 (.r 6 (.o8 ((eB x1 (i3.2:Int)).c) fun x4=>.aq (.o [.fU (gA cC.E [x4])]) (.aq (.o [.fU (oe cC.E i3.1 [x4])]) (.aq (.t (cC.E.qb [x4])) (.p (yi i3.1.length [x4].length 56))))) fun x4 =>
 .nx 7 21 i3.2 (i3.1++[x4],i3.2+1))
 (.fin (.inl (.inr i3.1))))
 (fun (b2:(List cC))=>⟨[(10,ow 100001 b2)],[(100001,bO 131 7 cC.cells b2)]⟩) fun b2 =>
 .fin b2
def aQ r forum f day:=(iQ r forum f day).val
theorem EB (r:ah) (forum:Int) (f:al) (day:Int):(iQ r forum f day).cZ (fun (x:(List cC))=>x.length=(ai f day).af.length):=by
 unfold iQ
 try simp only [l4,eB]
 exact DB
theorem Gb (r:ah) (forum:Int) (f:al) (day:Int) (bM:f.Small) (cu:r.cG) (bN:r.Small):(iQ r forum f day).bz (fun _=>True):=by
 refine Sk.aX _ ?_
 unfold iQ
 simp only [Sk.km,Sk.aO,reduceCtorEq,ON,kk,kp,l4,eB,maxLen]
 refine ⟨⟨bM,cu,bN⟩,fun x _ hx=>?_⟩
 have hS:x.f.Small:=by rw [hx.1]; exact zc bM day
 have hB:x.r.cG:=by rw [hx.2]; exact cu
 have hR:x.r.Small:=by rw [hx.2]; exact bN
 have hS1:=hS.1
 all_goals exact okT
def ua r forum f day:=kp tok mixed Tryz.func24 [av r.cells,iv forum,av f.cells,iv day] (fun x=>lv cC.cells x) false (aQ r forum f day) (u3 (Gb r forum f day)) (EB r forum f day)
structure I1 where
 af:List Int
 jD:Int
 broken:Int
 Sj:Bool
 Xn:Int
 late:List Int
 deriving Inhabited
def I1.cells (c:I1):List D:=[mV bU c.af,dI c.jD,dI c.broken,dB c.Sj,dI c.Xn,mV bU c.late]
def jm (f:al) (day:Int):Sk (Int × Bool) :=
 .bt
 (.loop (default:Sum (Int × Bool) (Int × Bool)) (fun i2=>i2.2.2≤f.aA.length) (fun i2=>f.aA.length - i2.2.2) ((0,false,0):Int × Bool × Nat)
 (fun (i2:Int × Bool × Nat)=>⟨[(6,iv i2.1),(7,bv i2.2.1),(13,iv (i2.2.2:Int))],[]⟩) fun i2 =>
 .lt 11 0 i2.2.2 f.aA.length
 (.r 4 (.p (bG (i2.2.2:Int) f.aA.length)) fun _ =>
 .br ((((((f.aA.getD i2.2.2 default).kind) != 1)&&(((f.aA.getD i2.2.2 default).kind) != 3))&&(((f.aA.getD i2.2.2 default).kind) != 4))||(decide (((f.aA.getD i2.2.2 default).day) > day)))
 (.nx 8 13 i2.2.2 (i2.1,i2.2.1,i2.2.2+1))
 (.br ((!i2.2.1)||(decide (((f.aA.getD i2.2.2 default).day) < i2.1)))
 (.nx 8 13 i2.2.2 ((f.aA.getD i2.2.2 default).day,true,i2.2.2+1))
 (.nx 8 13 i2.2.2 (i2.1,i2.2.1,i2.2.2+1))))
 (.fin (.inl (.inr (i2.1,i2.2.1)))))
 (fun (b1:Int × Bool)=>⟨[(6,iv b1.1),(7,bv b1.2)],[]⟩) fun b1 =>
 .fin (b1.1,b1.2)
def jo f day:=(jm f day).val
theorem zA (f:al) (day:Int):(jm f day).bz (fun _=>True):=by
 unfold jm
 exact oh
def jP f day:=kk tok mixed Tryz.func106 [av f.cells,iv day] (fun x=>.fL [iv x.1,bv x.2]) true (jm f day) (jo f day) (u0 (zA f day))
def iA (f:al) (part:Int) (day:Int):Sk (Unit) :=
 .fin ()
def ub f part day:=(iA f part day).val
theorem qg (f:al) (part:Int) (day:Int):ub f part day=():=rfl
theorem yd (f:al) (part:Int) (day:Int):(iA f part day).bz (fun _=>True):=by
 unfold iA
 exact pq
def jq f part day:=kk tok mixed Tryz.func107 [av f.cells,iv part,iv day] (fun x=>.fn 146 [.ref f.cells,.ref [dI day],.ref [dI part]]) false (iA f part day) (ub f part day) (u0 (yd f part day))
end
section
open Go Go.Av
def Dj (f:al) (day part:Int) (i:Nat):Bool :=
 ((((f.af.getD i default).kind == 2)&&((f.af.getD i default).part == part))&&decide ((f.af.getD i default).day≤day))&&!(Cu (fc f day) ((i:Nat):Int) false)
def bo (f:al) (day part:Int):List (Int × Sign):=((List.range f.af.length).filter (Dj f day part)).map fun i=>(((i:Nat):Int),f.af.getD i default)
def I2 (y:Int × Sign):List AV:=[iv y.1,av y.2.cells]
def aep:Code:=Tryz.f146.body.getD .skip
def Sl:Code:=cA (cA (cB (cB aep)))
def Qb:Code:=cA (cB (cB Sl))
def Sm:Array Oper:=opsOf (cA (cB (cA Qb)))
def Xo (f:al) (day part:Int) (m:List (Int × Bool)) (i:Nat):List (Nat × AV):=[(2,.ref [dI day]),(3,.ref [dI part]),(5,pmM dB m),(12,lv Sign.cells f.af),(13,iv ((f.af.length:Nat):Int)),(14,iv ((i:Nat):Int))]
def uc (f:al) (day part:Int) (i:Nat):Nat:=((List.range i).filter (Dj f day part)).length
def Y5:List Item:=[.code (cB (cB (cA Qb))),.inBlock 1,.code (cB (cB (cB Sl))),.inLoop Sl,.inBlock 0]
theorem Sn (f:al) (day part:Int) {i:Nat} (hi:i < f.af.length) (h:Dj f day part i=true):((bo f day part).map I2)[uc f day part i]? = some (I2 (((i:Nat):Int),f.af.getD i default)):=by
 have e:List.range f.af.length=List.range i++i :: (List.range' (i+1) (f.af.length - i - 1)):=by
  rw [List.range_eq_range',List.range_eq_range']
  have h1:=List.range'_append (s:=0) (m:=i) (n:=f.af.length - i) (step:=1)
  have h2:f.af.length - i=(f.af.length - i - 1)+1:=by omega
  rw [show f.af.length=i+(f.af.length - i) by omega,← h1,h2,List.range'_succ]
  simp
 unfold bo uc
 rw [e,List.filter_append,List.filter_cons_of_pos h]
 simp
theorem Qc (f:al) (day part:Int) (i:Nat):uc f day part (i+1)=bif Dj f day part i then uc f day part i+1 else uc f day part i:=by
 unfold uc
 rw [List.range_succ,List.filter_append]
 cases h:Dj f day part i <;> simp [h]
def Dk (q:Nat):Oper:=Sm.getD q default
def Sq (f:al) (day part:Int) (i:Nat) (sl:List (Nat × AV)):St:=⟨sl++[(6,iv ((i:Nat):Int)),(7,.ptr 7 0)]++Xo f day part (fc f day) i,[(7,.box ((f.af.getD i default).cells.map .d))]⟩
def Fg (f:al) (i:Nat):Sk Bool :=
 .Ba 12 0 f.af.length <| .br (decide (((i:Nat):Int) < ((f.af.length:Nat):Int))) (.r 3 (.p (bG ((i:Nat):Int) f.af.length)) fun _=>.fin true) (.fin false)
def ZU (f:al) (i:Nat):Sk Unit :=
 .Ba 12 0 f.af.length <| .JR <| .r 5 .z fun _=>.wi 14 (au (((i:Nat):Int)+1)) ((i+1:Nat):Int) <| .fin ()
def Xp (f:al) (day part:Int) (i:Nat):bg Unit :=
 .wh ((((f.af.getD i default).kind == 2)&&((f.af.getD i default).part == part))&&decide ((f.af.getD i default).day≤day)) true (.aq (.t (E4 dB (fc f day))) (.o [.cast 37 (getM dB (fc f day) ((i:Nat):Int) false)]))
theorem ur (f:al) (day part:Int):Uz Tryz.prog 146 [.ref f.cells,.ref [dI day],.ref [dI part]] ((bo f day part).map I2):=by
 refine Uz.intro (T:=TT) Tryz.func146 rfl (by kernel_rfl) (Nat.le_of_ble_eq_true (by kernel_rfl)) (fun X=>?_)
 have hr4:cA (cB (cA Qb))=.region 4 Sm false:=by kernel_rfl
 have hrg:List.range' 22 (Sm.size - 22)=[22,23,24,25,26,27]:=by kernel_rfl
 have key:∀ d i,i+d=f.af.length→G (X.g TT Tryz.f146 (X.H (uc f day part i))) [.code Sl,.inLoop Sl,.inBlock 0] ⟨Xo f day part (fc f day) i,[]⟩:=by
  intro d
  induction d with
  | zero =>
   intro i hi
   refine sJ.sk tok mixed Tryz.func146 _ (Fg f i) (fun b=>bif b then .go (.code (cA (cB (cA Qb))) :: Y5) (Sq f day part i []) else .go [] ⟨[],[]⟩) 100 (by kernel_rfl) ?_ ?_
   ·refine Sk.aX _ ?_
    simp only [Fg,Sk.km,bg.p,bG,implies_true,and_true]
    intro h hd
    simp at hd
    omega
   ·intro a ha
    have:(Fg f i).val=false:=by simp only [Fg,Sk.val]; simp; omega
    rw [this] at ha
    subst ha
    refine (sJ.ret Tryz.func146 (by kernel_rfl) (fun C h=>.inl ?_)).1
    have e:uc f day part i=((bo f day part).map I2).length:=by
     have:i=f.af.length:=by omega
     subst this
     simp [uc,bo]
    rw [← e]
    exact h
  | succ d ih =>
   intro i hi
   have eC:i < f.af.length:=by omega
   refine sJ.sk tok mixed Tryz.func146 _ (Fg f i) (fun b=>bif b then .go (.code (cA (cB (cA Qb))) :: Y5) (Sq f day part i []) else .go [] ⟨[],[]⟩) 100 (by kernel_rfl) ?_ ?_
   ·refine Sk.aX _ ?_
    simp only [Fg,Sk.km,bg.p,bG,implies_true,and_true]
    intro _ _
    omega
   ·intro a ha
    have:(Fg f i).val=true:=by simp only [Fg,Sk.val]; simp; omega
    rw [this] at ha
    subst ha
    show G _ _ _
    rw [hr4]
    -- behind Oh yield
    have next:∀ st,J2 st ⟨(46,bv false) :: Xo f day part (fc f day) i,[]⟩→G (X.g TT Tryz.f146 (X.H (uc f day part (i+1)))) Y5 st:=by
     intro st ki
     refine .le ki ?_
     refine sJ.sk tok mixed Tryz.func146 _ (ZU f i) (fun _=>.go [.inLoop Sl,.inBlock 0] ⟨Xo f day part (fc f day) (i+1),[]⟩) 100 (by kernel_rfl) ?_ (fun _ _=>.inLoop (ih (i+1) (by omega)))
     refine Sk.aX _ ?_
     simp only [ZU,Sk.km,bg.z,maxLen,implies_true,and_true]
     intro h
     refine ⟨trivial,fun _ _ _=>?_⟩
     refine (aG ?_ ?_).trans ?_ <;> omega
    refine G.yr ?_
    refine YW.aej tok mixed (Xp f day part i) 22 (fun _=>Sq f day part i [(40,bv (Dj f day part i))]) (by kernel_rfl) (Nat.le_of_ble_eq_true (by kernel_rfl)) (fun _=>by kernel_rfl) ?_ ?_
    ·simp [Xp,bg.wh,bg.aq,bg.t,bg.o]
    rw [hrg]
    refine YW.aek (s:=40) (b:=Dj f day part i) rfl (Nat.le_of_ble_eq_true (by kernel_rfl)) ?_
    have B6:=Qc f day part i
    cases he:Dj f day part i with
    | true =>
     rw [he,cond_true] at B6
     refine YW.mvC (o:=Dk 22) (d:=41) (u:=0) (by kernel_rfl) (by kernel_rfl) (by kernel_rfl) (by simp) (by kernel_rfl) ?_
     refine YW.ZL tok mixed (o:=Dk 23) (Sq f day part i [(42,iv ((i:Nat):Int))]) (by kernel_rfl) (by kernel_rfl) (by kernel_rfl) ?_
     refine YW.ZL tok mixed (o:=Dk 24) (Sq f day part i [(43,av (f.af.getD i default).cells),(42,iv ((i:Nat):Int))]) (by kernel_rfl) (by kernel_rfl) (by kernel_rfl) ?_
     refine YW.ylC (o:=Dk 25) (d:=44) (u:=41) (n:=uc f day part i) (ts:=[42,43]) (c:={ callee:=.value (.tmp 41),args:=#[.tmp 42,.tmp 43],argTypes:=#[3,96] }) (by kernel_rfl) (by kernel_rfl) (by kernel_rfl) rfl (by simp) (by kernel_rfl) (Sn f day part eC he) rfl (by kernel_rfl) (by kernel_rfl) ?_ ?_
     ·refine YW.ZL tok mixed (o:=Dk 26) (Sq f day part i [(45,bv false)]) (by kernel_rfl) (by kernel_rfl) (by kernel_rfl) ?_
      refine YW.WQ (o:=Dk 27) (d:=46) (x:=.tmp 45) (y:=.const (.bool false)) false (by kernel_rfl) (by kernel_rfl) (by kernel_rfl) (by kernel_rfl) (by kernel_rfl) ?_
      refine YW.nil (T:=TT) (fn:=Tryz.f146) (by simp) ?_
      rw [← B6]
      exact next _ (Tx (by kernel_rfl))
     ·refine YW.ZL tok mixed (o:=Dk 26) (Sq f day part i [(45,bv true)]) (by kernel_rfl) (by kernel_rfl) (by kernel_rfl) ?_
      refine YW.WQ (o:=Dk 27) (d:=46) (x:=.tmp 45) (y:=.const (.bool false)) true (by kernel_rfl) (by kernel_rfl) (by kernel_rfl) (by kernel_rfl) (by kernel_rfl) ?_
      refine YW.nil (T:=TT) (fn:=Tryz.f146) (by simp) ?_
      refine sJ.sk tok mixed Tryz.func146 _ (.JQ (.fin ()):Sk Unit) (fun _=>.go (.code .ret :: Y5.tail) ⟨[],[]⟩) 100 (by kernel_rfl) trivial (fun _ _=>(sJ.ret Tryz.func146 (by kernel_rfl) (fun C h=>.inr h)).2 _)
    | false =>
     rw [he,cond_false] at B6
     refine YW.Pr (o:=Dk 22) (d:=41) (by kernel_rfl) (by kernel_rfl) (by kernel_rfl) ?_
     refine YW.Pr (o:=Dk 23) (d:=42) (by kernel_rfl) (by kernel_rfl) (by kernel_rfl) ?_
     refine YW.Pr (o:=Dk 24) (d:=43) (by kernel_rfl) (by kernel_rfl) (by kernel_rfl) ?_
     refine YW.Pr (o:=Dk 25) (d:=44) (by kernel_rfl) (by kernel_rfl) (by kernel_rfl) ?_
     refine YW.Pr (o:=Dk 26) (d:=45) (by kernel_rfl) (by kernel_rfl) (by kernel_rfl) ?_
     refine YW.WQ (o:=Dk 27) (d:=46) (x:=.tmp 45) (y:=.const (.bool false)) false (by kernel_rfl) (by kernel_rfl) (by kernel_rfl) (by kernel_rfl) (by kernel_rfl) ?_
     refine YW.nil (T:=TT) (fn:=Tryz.f146) (by simp) ?_
     rw [← B6]
     exact next _ (Tx (by kernel_rfl))
 refine sJ.sk tok mixed Tryz.func146 _ (.r 0 ((pQ f day).c) fun m=>.r 1 .z fun _=>.fin m:Sk (List (Int × Bool))) (fun m=>.go [.code (.loop Sl),.inBlock 0] ⟨Xo f day part m 0,[]⟩) 100 (by kernel_rfl) ?_ (fun m hm=>?_)
 ·refine Sk.aX _ ?_
  simp [Sk.km,bg.z,gm.c,kk,kp,pQ]
 ·have hm:m=fc f day:=hm
  subst hm
  exact .WR (key f.af.length 0 (by omega))
def fY (f:al) (day part:Int):ItC (Int × Sign):=⟨Tryz.prog,146,[.ref f.cells,.ref [dI day],.ref [dI part]],bo f day part,I2,True,fun _=>ur f day part⟩
end
section
open Go Go.Av
def pS (before:Int) (flags:Int):Sk (Int) :=
 .br (((dP .i64 flags 2) != 0)||(before != 0))
 (.fin 1)
 (.br ((dP .i64 flags 4) != 0)
 (.fin 2)
 (.fin 0))
def zB before flags:=(pS before flags).val
theorem I3 (before:Int) (flags:Int):(pS before flags).bz (fun _=>True):=by
  unfold pS
  exact pq

def ri before flags:=kk tok mixed Tryz.func108 [iv before,iv flags] (fun x=>iv x) true (pS before flags) (zB before flags) (u0 (I3 before flags))
theorem Qd (f:al) (day part:Int):(bo f day part).length≤f.af.length:=by
  unfold bo
  rw [List.length_map]
  exact Nat.le_trans (List.length_filter_le _ _) (by simp)
theorem I4 {f:al} {day part:Int} {i:Nat} {y:Int × Sign} (h:(bo f day part)[i]? = some y):i < f.af.length∧0≤y.1∧y.1 < f.af.length∧y.2=f.af.getD y.1.toNat default∧y.2.kind=2∧y.2.part=part∧y.2.day≤day∧Cu (fc f day) y.1 false=false:=by
  have h1:=(List.getElem?_eq_some_iff.1 h).1
  have h2:=List.mem_of_getElem? h
  have h3:=Qd f day part
  unfold bo at h2
  obtain ⟨q,hq,rfl⟩:=List.mem_map.1 h2
  rw [List.mem_filter,List.mem_range] at hq
  obtain ⟨hq1,hq2⟩:=hq
  unfold Dj at hq2
  simp only [Bool.and_eq_true,beq_iff_eq,decide_eq_true_eq,Bool.not_eq_true'] at hq2
  exact ⟨by omega,by omega,by omega,rfl,hq2.1.1.1,hq2.1.1.2,hq2.1.2,hq2.2⟩
def kb (f:al) (part:Int) (day:Int):Sk (I1) :=
 .r 2 ((jP f day).c) fun x1 =>
 .r 3 ((jq f part day).c) fun _ =>
 .rf (fY f day part) (fun ki3 i3=>i3.1.length≤ki3∧i3.2.2.2.2.length≤ki3∧∀ y,y∈i3.1→0≤y∧y < (f.af.length:Int)∧(f.af.getD y.toNat default).day≤day) (fun e5=>e5.1.length≤f.af.length∧∀ y,y∈e5.1→0≤y∧y < (f.af.length:Int)∧(f.af.getD y.toNat default).day≤day) 0 (([],f.aR.kq,f.aR.kq == (-1),0,[]):(List Int) × Int × Bool × Int × (List Int))
 (fun (i3:(List Int) × Int × Bool × Int × (List Int))=>[(100000,bO 3 1 bU i3.1),(100001,bO 3 1 bU i3.2.2.2.2),(7,.box ([ow 100000 i3.1]++[iv i3.2.1,iv (-1),bv i3.2.2.1,iv i3.2.2.2.1,ow 100001 i3.2.2.2.2]))]) (fun (e5:(List Int) × Int × Int × Bool × Int × (List Int))=>[(100002,bO 3 1 bU e5.1),(100003,bO 3 1 bU e5.2.2.2.2.2),(7,.box ([ow 100002 e5.1]++[iv e5.2.1,iv e5.2.2.1,bv e5.2.2.2.1,iv e5.2.2.2.2.1,ow 100003 e5.2.2.2.2.2]))])
 (fun i3 y4 =>
 .br ((!i3.2.2.1)&&(y4.2.dt != i3.2.1))
 (.fin (.inl (i3.1,i3.2.1,y4.1,i3.2.2.1,i3.2.2.2.1,i3.2.2.2.2)))
 (.r 8 (.aq (.o [.fU (gA eA [y4.1])]) (.aq (.o [.fU (oe eA i3.1 [y4.1])]) (.aq (.t (eA.qb [y4.1])) (.p (yi i3.1.length [y4.1].length 8))))) fun _ =>
 .r 9 ((ri i3.2.2.2.1 y4.2.flags).c) fun x6 =>
 .br (x1.2&&(decide (y4.2.day > x1.1)))
 (.r 11 (.aq (.o [.fU (gA eA [y4.1])]) (.aq (.o [.fU (oe eA i3.2.2.2.2 [y4.1])]) (.aq (.t (eA.qb [y4.1])) (.p (yi i3.2.2.2.2.length [y4.1].length 8))))) fun _ =>
 .fin (.inr (i3.1++[y4.1],y4.2.cj,y4.2.cj == (-1),x6,i3.2.2.2.2++[y4.1])))
 (.fin (.inr (i3.1++[y4.1],y4.2.cj,y4.2.cj == (-1),x6,i3.2.2.2.2))))) fun r=>match r with
 | .inl e5=>(.fin ({ af:=e5.1,jD:=e5.2.1,broken:=e5.2.2.1,Sj:=e5.2.2.2.1,Xn:=e5.2.2.2.2.1,late:=e5.2.2.2.2.2 }:I1))
 | .inr j7=>(.fin ({ af:=j7.1,jD:=j7.2.1,broken:=(-1),Sj:=j7.2.2.1,Xn:=j7.2.2.2.1,late:=j7.2.2.2.2 }:I1))
def kx f part day:=(kb f part day).val
theorem Gc (f:al) (part:Int) (day:Int):(kb f part day).cZ (fun (x:I1)=>x.af.length≤f.af.length∧∀ y,y∈x.af→0≤y∧y < (f.af.length:Int)∧(f.af.getD y.toNat default).day≤day):=by
  refine Sk.bp _ ?_
  unfold kb
  simp only [Sk.cU,Sk.aO,reduceCtorEq,ON,kk,kp,jP,jq,ri,fY,Sum.forall,qg,forall_eq,maxLen]
  refine fun _=>⟨⟨by simp,by simp,fun y h=>by cases h⟩,fun i s y hs hy=>?_,fun a ha=>ha,fun b hb=>⟨Nat.le_trans hb.1 (Qd _ _ _),hb.2.2⟩⟩
  have hm:=I4 hy
  have Ca:∀ z,z∈s.1++[y.1]→0≤z∧z < (f.af.length:Int)∧(f.af.getD z.toNat default).day≤day:=fun z hz=>by
    rcases List.mem_append.1 hz with h | h
    · exact hs.2.2 z h
    · simp only [List.mem_singleton] at h
      subst h
      exact ⟨hm.2.1,hm.2.2.1,by rw [← hm.2.2.2.1]; exact hm.2.2.2.2.2.2.1⟩
  have hl1:(s.1++[y.1]).length=s.1.length+1:=by simp
  have hl2:(s.2.2.2.2++[y.1]).length=s.2.2.2.2.length+1:=by simp
  have hl3:[y.1].length=1:=rfl
  rw [hl1,hl2]
  exact ⟨fun _=>⟨by omega,hs.2.2⟩,fun _ _=>⟨fun _ _=>⟨by omega,by omega,Ca⟩,fun _=>⟨by omega,by omega,Ca⟩⟩⟩

theorem I5 (f:al) (part:Int) (day:Int) (hf:f.Small):(kb f part day).bz (fun _=>True):=by
  refine Sk.aX _ ?_
  unfold kb
  simp only [Sk.km,Sk.aO,reduceCtorEq,ON,kk,kp,Sk.cU,jP,jq,ri,fY,Sum.forall,qg,forall_eq,maxLen]
  refine fun _=>⟨⟨by simp,by simp,fun y h=>by cases h⟩,fun i s y hs hy=>?_⟩
  have hm:=I4 hy
  have Ca:∀ z,z∈s.1++[y.1]→0≤z∧z < (f.af.length:Int)∧(f.af.getD z.toNat default).day≤day:=fun z hz=>by
    rcases List.mem_append.1 hz with h | h
    · exact hs.2.2 z h
    · simp only [List.mem_singleton] at h
      subst h
      exact ⟨hm.2.1,hm.2.2.1,by rw [← hm.2.2.2.1]; exact hm.2.2.2.2.2.2.1⟩
  have hl1:(s.1++[y.1]).length=s.1.length+1:=by simp
  have hl2:(s.2.2.2.2++[y.1]).length=s.2.2.2.2.length+1:=by simp
  have hl3:[y.1].length=1:=rfl
  rw [hl1,hl2,hl3]
  have hf1:=hf.1
  exact ⟨⟨fun _=>⟨by omega,hs.2.2⟩,fun _ _=>⟨fun _ _=>⟨by omega,by omega,Ca⟩,fun _=>⟨by omega,by omega,Ca⟩⟩⟩,fun _=>⟨by omega,hs.2.2⟩,fun _=>⟨⟨by omega,by omega⟩,fun _=>⟨fun _=>⟨⟨by omega,by omega⟩,fun _=>⟨by omega,by omega,Ca⟩⟩,fun _=>⟨by omega,by omega,Ca⟩⟩⟩⟩

def vp f part day:=kp tok mixed Tryz.func56 [av f.cells,iv part,iv day] (fun x=>av x.cells) false (kx f part day) (I5 f part day) (Gc f part day)
def jr (v:View) (part:Int):Sk ((List Int)) :=
 .r 1 ((vp v.all part v.day).c) fun x1 =>
 .fin x1.af
def aj v part:=(jr v part).val
theorem ud (v:View) (part:Int):(jr v part).cZ (fun (x:(List Int))=>x.length≤v.all.af.length∧∀ y,y∈x→0≤y∧y < (v.all.af.length:Int)∧(v.all.af.getD y.toNat default).day≤v.day):=by
  unfold jr
  try simp only [vp]
  exact DB

theorem nc (v:View) (part:Int):(fun (x:(List Int))=>x.length≤v.all.af.length∧∀ y,y∈x→0≤y∧y < (v.all.af.length:Int)∧(v.all.af.getD y.toNat default).day≤v.day) (aj v part):=have h:=Sk.de _ (ud v part); h
theorem Dl (v:View) (part:Int) (X5:v.all.Small):(jr v part).bz (fun _=>True):=by
  unfold jr
  try simp only [vp]
  exact oh

def qH v part:=kp tok mixed Tryz.func25 [av v.cells,iv part] (fun x=>lv bU x) false (aj v part) (Dl v part) (ud v part)
def jQ (c_:eu) (links:List Int):Sk (Unit) :=
 .fin ()
def wq c_ links:=(jQ c_ links).val
theorem AG (c_:eu) (links:List Int):wq c_ links=():=rfl
theorem AH (c_:eu) (links:List Int):(jQ c_ links).bz (fun _=>True):=by
  unfold jQ
  exact pq

def ue c_ links:=kk tok mixed Tryz.func26 [av c_.cells,lv bU links] (fun x=>.fn 57 [.ref c_.cells,.ref [mV bU links]]) false (jQ c_ links) (wq c_ links) (u0 (AH c_ links))
structure kd where
  fA:Int
  sign:Int
  state:Int
  deriving Inhabited
def kd.cells (c:kd):List D:=[dI c.fA,dI c.sign,dI c.state]
def jR (x_:Fact) (v:Int) (v':Int):Sk (Bool) :=
 .fin ((x_.kind == v)&&(x_.at_ == v'))
def cL x_ v v':=(jR x_ v v').val
theorem jS (x_:Fact) (v:Int) (v':Int):cL x_ v v'=((x_.kind == v)&&(x_.at_ == v')):=rfl
theorem AI (x_:Fact) (v:Int) (v':Int):(jR x_ v v').bz (fun _=>True):=by
  unfold jR
  exact pq

def ou x_ v v':=kk tok mixed Tryz.func148 [av x_.cells,.ref [dI v],.ref [dI v']] (fun x=>bv x) true (jR x_ v v') (cL x_ v v') (u0 (AI x_ v v'))
def eJ (s:List Fact) (v:Int) (v':Int):Sk (Int) :=
 .bind true (fun b1=>∀ q,q < s.length→cL (s.getD q default) v v'=false)
 (.loop (default:Sum (Int) (Unit)) (fun i2=>∀ q,q < i2→cL (s.getD q default) v v'=false) (fun i2=>s.length - i2) (0:Nat)
 (fun (i2:Nat)=>⟨[(8,iv ((i2:Nat):Int))],[]⟩) fun i2 =>
 .lt 0 0 i2 s.length
 (.r 4 (.aq (.p (bG ((i2:Nat):Int) s.length)) ((ou (s.getD i2 default) v v').c)) fun x3 =>
 .br x3
 (.fin (.inl (.inl ((i2:Nat):Int))))
 (.nx 6 8 i2 (i2+1)))
 (.fin (.inl (.inr ()))))
 (fun (_:Unit)=>⟨[],[]⟩) fun _ =>
 .fin (-1)
def js s v v':=(eJ s v v').val
theorem nC (s:List Fact) (v:Int) (v':Int):(eJ s v v').cZ (fun (x:Int)=>(x = -1∧∀ q,q < s.length→cL (s.getD q default) v v'=false)∨(0≤x∧x < s.length∧cL (s.getD x.toNat default) v v'=true∧∀ q,(q:Nat) < x.toNat→cL (s.getD q default) v v'=false)):=by
  unfold eJ
  try simp only [ou,jS]
  exact RS

theorem uu (s:List Fact) (v:Int) (v':Int):(fun (x:Int)=>(x = -1∧∀ q,q < s.length→cL (s.getD q default) v v'=false)∨(0≤x∧x < s.length∧cL (s.getD x.toNat default) v v'=true∧∀ q,(q:Nat) < x.toNat→cL (s.getD q default) v v'=false)) (js s v v'):=have h:=Sk.de _ (nC s v v'); h
theorem wu (s:List Fact) (v:Int) (v':Int):(eJ s v v').bz (fun _=>True):=by
  unfold eJ
  try simp only [ou,jS]
  exact yj

def pT s v v':=kp tok mixed Tryz.func147 [lv Fact.cells s,.fn 148 [.ref [dI v],.ref [dI v']]] (fun x=>iv x) true (js s v v') (u0 (wu s v v')) (nC s v v')
def mM (v:View) (kind:Int) (sign:Int):Sk (Int) :=
 .r 1 ((pT v.now.facts kind sign).c) fun x1 =>
 .br (decide (x1 < 0))
 (.fin 2)
 (.r 4 (.p (bG x1 v.now.facts.length)) fun _ =>
 .br (((v.now.facts.getD x1.toNat default).n) == 0)
 (.fin 0)
 (.fin 1))
def jG v kind sign:=(mM v kind sign).val
theorem EC (v:View) (kind:Int) (sign:Int):(mM v kind sign).bz (fun _=>True):=by
  unfold mM
  try simp only [pT]
  exact oh

def si v kind sign:=kk tok mixed Tryz.func109 [av v.cells,iv kind,iv sign] (fun x=>iv x) true (mM v kind sign) (jG v kind sign) (u0 (EC v kind sign))
def uV (a:Int) (b:Int):Sk (Int) :=
 .br ((a == 0)||(b == 0))
 (.fin 0)
 (.br ((a == 2)||(b == 2))
 (.fin 2)
 (.fin 1))
def eK a b:=(uV a b).val
theorem Qe (a:Int) (b:Int):(uV a b).bz (fun _=>True):=by
  unfold uV
  exact pq

def qI a b:=kk tok mixed Tryz.func62 [iv a,iv b] (fun x=>iv x) true (uV a b) (eK a b) (u0 (Qe a b))
def rj (a:Int) (b:Int):Sk (Int) :=
 .br ((a == 1)||(b == 1))
 (.fin 1)
 (.br ((a == 2)||(b == 2))
 (.fin 2)
 (.fin 0))
def qJ a b:=(rj a b).val
theorem KO (a:Int) (b:Int):(rj a b).bz (fun _=>True):=by
  unfold rj
  exact pq

def Dm a b:=kk tok mixed Tryz.func110 [iv a,iv b] (fun x=>iv x) true (rj a b) (qJ a b) (u0 (KO a b))
def jT (c_:eu) (link:Int) (last:Int):Sk (Int) :=
 .r 2 (.dep ((si c_.view 0 link).c) fun x1=>.dep ((si c_.view 2 link).c) fun x2=>(qI x1 x2).c) fun p8 =>
 .r 3 (.dep ((gR c_.r c_.forum 3 ({ file:=c_.view.now,sign:=link,jD:=last,jN:=(-1),due:=c_.due,day:=c_.view.day }:fw)).c) fun x4=>.dep ((fp x4).c) fun x5=>(Dm p8.2.2 x5).c) fun p7 =>
 .fin p7.2.2
def bj c_ link last:=(jT c_ link last).val
theorem AJ (c_:eu) (link:Int) (last:Int) (Q7:c_.view.now.Small) (Qf:c_.r.cG) (Nf:c_.r.Small):(jT c_ link last).bz (fun _=>True):=by
  unfold jT
  try simp only [gR,fp,qI,Dm,si]
  exact oh

def uf c_ link last:=kk tok mixed Tryz.func58 [av c_.cells,iv link,iv last] (fun x=>iv x) true (jT c_ link last) (bj c_ link last) (u3 (AJ c_ link last))
end
section
open Go Go.Av
def dG (c:eu) (last:Int):List Int→kd→List kd
 | [],o=>[o]
 | l :: r,o=>bif bj c l last == 0 then [o] else bif bj c l last == 2 then { o with state:=2 } :: dG c last r { fA:=(c.view.now.af.getD l.toNat default).cj,sign:=l,state:=2 } else dG c last r { o with fA:=(c.view.now.af.getD l.toNat default).cj,sign:=l }
def sX (links:List Int):Int:=links.getD (au (((links.length:Nat):Int) - 1)).toNat default
def bn (c:eu) (links:List Int):List kd:=dG c (sX links) links { fA:=c.view.now.aR.kq,sign:=-1,state:=1 }
def I6 (y:kd):List AV:=[av y.cells]
def O9:Code:=Tryz.f57.body.getD .skip
def acz:Code:=cB (cA (cB O9))
def Sr:Code:=cA (cA acz)
def zC:Code:=cB (cB O9)
def acA:Code:=cA (cA (cB (cB Sr)))
def aaV:Code:=cB (cB (cB Sr))
def ZV:Code:=cB (cB (cB acA))
def Qg:Code:=cB ZV
def ZW:Code:=cA (cB (cA ZV))
def Xq:Code:=cA (cB ZW)
def acB:Code:=cB (cB ZW)
def xy:Array Oper:=opsOf Xq
def zD:Array Oper:=opsOf zC
def Qh:List Item:=[.inBlock 1,.code aaV,.inLoop Sr,.inBlock 0,.code zC]
def KP (c:eu) (links:List Int) (i:Nat) (o:kd) (sl:List (Nat × AV)):St:=⟨sl++[(1,.ref c.cells),(2,.ref [mV bU links]),(4,.ptr 4 0),(14,lv bU links),(15,iv ((links.length:Nat):Int)),(16,iv ((i:Nat):Int))],[(4,.box (o.cells.map .d))]⟩
def Xr (c:eu) (links:List Int) (i:Nat) (s:Int):kd:={ fA:=(c.view.now.af.getD (links.getD i default).toNat default).cj,sign:=links.getD i default,state:=s }
def Fh (c:eu) (links:List Int) (i:Nat):Sk (Option Bool) :=
 .Ba 14 0 links.length <|
 .br (decide (((i:Nat):Int) < ((links.length:Nat):Int)))
  (.r 3 (.p (bG ((i:Nat):Int) links.length)) fun _ =>
   .r 4 (.aq (.p (bG (au (((links.length:Nat):Int) - 1)) links.length)) ((uf c (links.getD i default) (sX links)).c)) fun x =>
   .br (x == 0) (.fin none) (.br (x == 2) (.r 7 .z fun _=>.fin (some true)) (.fin (some false))))
  (.fin none)
def ZX (c:eu) (links:List Int) (i:Nat):Sk Unit :=
 .Ba 14 0 links.length <| .r 9 (.p (bG (links.getD i default) c.view.now.af.length)) fun _=>.r 10 .z fun _=>.wi 16 (au (((i:Nat):Int)+1)) ((i+1:Nat):Int) <| .fin ()
def Ss (c:eu) (links:List Int):Prop:=links.length≤1000000∧(∀ i,i < links.length→0≤links.getD i default∧links.getD i default < c.view.now.af.length)∧∀ i,i < links.length→(uf c (links.getD i default) (sX links)).pre
def ZY (c:eu) (links:List Int) (i:Nat) (o:kd):Option Bool→WC
 | none=>.go [.code zC] ⟨[(4,.ptr 4 0)],[(4,.box (o.cells.map .d))]⟩
 | some true=>.go (.code Xq :: .code acB :: .code Qg :: Qh) (KP c links i { o with state:=2 } [(6,iv (links.getD i default))])
 | some false=>.go (.code Qg :: Qh) (KP c links i o [(6,iv (links.getD i default))])
theorem wv (c:eu) (links:List Int) (hp:Ss c links):Uz Tryz.prog 57 [.ref c.cells,.ref [mV bU links]] ((bn c links).map I6):=by
 refine Uz.intro (T:=TT) Tryz.func57 rfl (by kernel_rfl) (Nat.le_of_ble_eq_true (by kernel_rfl)) (fun X=>?_)
 have hr8:Xq=.region 8 xy false:=by kernel_rfl
 have aeq:zC=.region 11 zD false:=by kernel_rfl
 have hg8:List.range xy.size=[0,1,2,3]:=by kernel_rfl
 have aer:List.range zD.size=[0,1,2]:=by kernel_rfl
 have hys:∀ k o pre r,bn c links=pre++o :: r→pre.length=k→((bn c links).map I6)[k]? = some (I6 o):=fun k o pre r h hk=>by
  rw [h]; subst hk; simp
 have fin:∀ k o pre,bn c links=pre++[o]→pre.length=k→G (X.g TT Tryz.f57 (X.H k)) [.code zC] ⟨[(4,.ptr 4 0)],[(4,.box (o.cells.map .d))]⟩:=by
  intro k o pre h hk
  rw [aeq]
  refine G.yr ?_
  rw [aer]
  refine YW.mvC (o:=zD.getD 0 default) (d:=50) (u:=0) (by kernel_rfl) (by kernel_rfl) (by kernel_rfl) (by simp) (by kernel_rfl) ?_
  refine YW.ZL tok mixed (o:=zD.getD 1 default) ⟨[(51,av o.cells),(4,.ptr 4 0)],[(4,.box (o.cells.map .d))]⟩ (by kernel_rfl) (by kernel_rfl) (by kernel_rfl) ?_
  refine YW.ylC (o:=zD.getD 2 default) (d:=52) (u:=50) (n:=k) (ts:=[51]) (c:={ callee:=.value (.tmp 50),args:=#[.tmp 51],argTypes:=#[93] }) (by kernel_rfl) (by kernel_rfl) (by kernel_rfl) rfl (by simp) (by kernel_rfl) (hys k o pre [] h hk) rfl (by kernel_rfl) (by kernel_rfl) ?_ ?_
  ·refine YW.nil (T:=TT) (fn:=Tryz.f57) (by simp) (sJ.ret Tryz.func57 (by kernel_rfl) (fun C h'=>.inl ?_)).1
   have:((bn c links).map I6).length=k+1:=by rw [h]; simp [hk]
   rw [this]
   exact h'
  ·exact YW.nil (T:=TT) (fn:=Tryz.f57) (by simp) (sJ.ret Tryz.func57 (by kernel_rfl) (fun C h'=>.inr h')).1
 have key:∀ d i,i+d=links.length→∀ k o pre,bn c links=pre++dG c (sX links) (links.drop i) o→pre.length=k→G (X.g TT Tryz.f57 (X.H k)) [.code Sr,.inLoop Sr,.inBlock 0,.code zC] (KP c links i o []):=by
  intro d
  induction d with
  | zero =>
   intro i hi k o pre h hk
   refine sJ.sk tok mixed Tryz.func57 _ (Fh c links i) (ZY c links i o) 100 (by kernel_rfl) ?_ ?_
   ·refine Sk.aX _ ?_
    simp only [Fh,Sk.km]
    refine fun _=>⟨fun hd=>?_,fun _=>trivial⟩
    simp at hd
    omega
   ·intro a ha
    have:(Fh c links i).val=none:=by
     have e:decide (((i:Nat):Int) < ((links.length:Nat):Int))=false:=decide_eq_false (by omega)
     simp only [Fh,Sk.val,e,cond_false]
    rw [this] at ha
    subst ha
    refine fin k o pre ?_ hk
    rw [h,List.drop_of_length_le (by omega)]
    rfl
  | succ d ih =>
   intro i hi k o pre h hk
   have eC:i < links.length:=by omega
   have S9:links.drop i=links.getD i default :: links.drop (i+1):=by
    rw [List.drop_eq_getElem_cons eC]
    simp [List.getD,eC]
   have next:∀ k' o' Y6 st,J2 st (KP c links i o' [(6,iv (links.getD i default))])→bn c links=Y6++dG c (sX links) (links.drop (i+1)) (Xr c links i o'.state)→Y6.length=k'→G (X.g TT Tryz.f57 (X.H k')) (.code Qg :: Qh) st:=by
    intro k' o' Y6 st ki h' fW
    refine .le ki ?_
    refine sJ.sk tok mixed Tryz.func57 _ (ZX c links i) (fun _=>.go [.inLoop Sr,.inBlock 0,.code zC] (KP c links (i+1) (Xr c links i o'.state) [])) 100 (by kernel_rfl) ?_ (fun _ _=>.inLoop (ih (i+1) (by omega) k' _ Y6 h' fW))
    refine Sk.aX _ ?_
    simp only [ZX,Sk.km,bg.z,bg.p,bG,maxLen]
    have q1:=hp.2.1 i eC
    have q2:=hp.1
    refine fun _=>⟨by omega,fun _ _ _=>⟨trivial,fun _ _ _=>⟨?_,trivial⟩⟩⟩
    refine (aG ?_ ?_).trans ?_ <;> omega
   refine sJ.sk tok mixed Tryz.func57 _ (Fh c links i) (ZY c links i o) 100 (by kernel_rfl) ?_ ?_
   ·refine Sk.aX _ ?_
    have q2:=hp.1
    have q3:=hp.2.2 i eC
    have e:au (((links.length:Nat):Int) - 1)=((links.length:Nat):Int) - 1:=aG (by omega) (by omega)
    simp only [Fh,Sk.km,bg.p,bg.z,bg.aq,gm.c,kk,kp,bG,maxLen,e,implies_true,true_and,and_true,and_self]
    exact fun _ _=>⟨by omega,fun _ _ _=>⟨by omega,q3⟩⟩
   ·intro a ha
    have hv:(Fh c links i).val=bif bj c (links.getD i default) (sX links) == 0 then none else bif bj c (links.getD i default) (sX links) == 2 then some true else some false:=by
     have e:decide (((i:Nat):Int) < ((links.length:Nat):Int))=true:=decide_eq_true (by omega)
     simp only [Fh,Sk.val,e,cond_true]
     rfl
    rw [hv] at ha
    rw [S9] at h
    simp only [dG] at h
    cases h0:bj c (links.getD i default) (sX links) == 0 with
    | true =>
     rw [h0,cond_true] at ha h
     subst ha
     exact fin k o pre h hk
    | false =>
     rw [h0,cond_false] at ha h
     cases h2:bj c (links.getD i default) (sX links) == 2 with
     | true =>
      rw [h2,cond_true] at ha h
      subst ha
      show G _ _ _
      rw [hr8]
      refine G.yr ?_
      rw [hg8]
      refine YW.mvC (o:=xy.getD 0 default) (d:=34) (u:=0) (by kernel_rfl) (by kernel_rfl) (by kernel_rfl) (by simp) (by kernel_rfl) ?_
      refine YW.ZL tok mixed (o:=xy.getD 1 default) (KP c links i { o with state:=2 } [(35,av ({ o with state:=2 }:kd).cells),(6,iv (links.getD i default))]) (by kernel_rfl) (by kernel_rfl) (by kernel_rfl) ?_
      refine YW.ylC (o:=xy.getD 2 default) (d:=36) (u:=34) (n:=k) (ts:=[35]) (c:={ callee:=.value (.tmp 34),args:=#[.tmp 35],argTypes:=#[93] }) (by kernel_rfl) (by kernel_rfl) (by kernel_rfl) rfl (by simp) (by kernel_rfl) (hys k _ pre _ h hk) rfl (by kernel_rfl) (by kernel_rfl) ?_ ?_
      ·refine YW.ZL tok mixed (o:=xy.getD 3 default) (KP c links i { o with state:=2 } [(37,bv false),(6,iv (links.getD i default))]) (by kernel_rfl) (by kernel_rfl) (by kernel_rfl) ?_
       refine YW.nil (T:=TT) (fn:=Tryz.f57) (by simp) ?_
       refine sJ.sk tok mixed Tryz.func57 _ (.JR (.fin ()):Sk Unit) (fun _=>.go (.code Qg :: Qh) (KP c links i { o with state:=2 } [(6,iv (links.getD i default))])) 100 (by kernel_rfl) trivial (fun _ _=>next (k+1) { o with state:=2 } (pre++[{ o with state:=2 }]) _ (fun _ _ _ h=>h) (by rw [h]; simp [Xr]) (by simp [hk]))
      ·refine YW.ZL tok mixed (o:=xy.getD 3 default) (KP c links i { o with state:=2 } [(37,bv true),(6,iv (links.getD i default))]) (by kernel_rfl) (by kernel_rfl) (by kernel_rfl) ?_
       refine YW.nil (T:=TT) (fn:=Tryz.f57) (by simp) ?_
       refine sJ.sk tok mixed Tryz.func57 _ (.JQ (.fin ()):Sk Unit) (fun _=>.go (.code .ret :: .code Qg :: Qh) ⟨[],[]⟩) 100 (by kernel_rfl) trivial (fun _ _=>(sJ.ret Tryz.func57 (by kernel_rfl) (fun C h=>.inr h)).2 _)
     | false =>
      rw [h2,cond_false] at ha h
      subst ha
      exact next k o pre _ (fun _ _ _ h=>h) h hk
 refine sJ.sk tok mixed Tryz.func57 _ (.r 0 .z fun _=>.r 1 .z fun _=>.fin ():Sk Unit) (fun _=>.go [.code (.loop Sr),.inBlock 0,.code zC] (KP c links 0 { fA:=c.view.now.aR.kq,sign:=-1,state:=1 } [])) 100 (by kernel_rfl) ?_ (fun _ _=>.WR (key links.length 0 (by omega) 0 _ [] rfl rfl))
 refine Sk.aX _ ?_
 simp [Sk.km,bg.z]
def kI (c:eu) (links:List Int):ItC kd:=⟨Tryz.prog,57,[.ref c.cells,.ref [mV bU links]],bn c links,I6,Ss c links,fun h=>wv c links h⟩
end
section
open Go Go.Av
def mN (v:View) (sign:Int):Sk (Int) :=
 .r 1 (.p (bG sign v.now.af.length)) fun _ =>
 .r 2 (.wh (sign == 0) false ((aJ v.lead ((v.now.af.getD sign.toNat default).part)).c)) fun x1 =>
 .br ((sign == 0)||(!x1))
 (.r 3 (.p (bG (0:Int) v.lead.length)) fun _ =>
 .fin (v.lead.getD 0 default))
 (.fin ((v.now.af.getD sign.toNat default).part))
def eV v sign:=(mN v sign).val
theorem ED (v:View) (sign:Int) (hs:0≤sign∧sign < v.now.af.length) (hl:v.lead.length≠0):(mN v sign).bz (fun _=>True):=by
 unfold mN
 try simp only [aJ]
 exact oh
def nX v sign:=kk tok mixed Tryz.func60 [av v.cells,iv sign] (fun x=>iv x) true (mN v sign) (eV v sign) (u2 (ED v sign))
def fS (v:View) (part:Int) (cz:Int) (links:List Int):Sk ((List Int)) :=
 .r 2 (.wh (cz != (-1)) true ((aJ links cz).c)) fun x1 =>
 .br ((cz != (-1))&&(!x1))
 (.fin [])
 (.bind true (fun b2=>b2.length≤v.now.af.length∧∀ y,y∈b2→0≤y∧y < (v.now.af.length:Int))
 (.loop (default:Sum ((List Int)) ((List Int))) (fun i3=>i3.2≤v.now.af.length∧i3.1.length≤i3.2∧∀ y,y∈i3.1→0≤y∧y < (v.now.af.length:Int)) (fun i3=>v.now.af.length - i3.2) (([],0):(List Int) × Nat)
 (fun (i3:(List Int) × Nat)=>⟨[(9,ow 100002 i3.1),(25,iv (i3.2:Int))],[(100002,bO 3 1 bU i3.1)]⟩) fun i3 =>
 .lt 23 0 i3.2 v.now.af.length
 (.r 6 (.p (bG (i3.2:Int) v.now.af.length)) fun _ =>
 .r 7 ((nX v (i3.2:Int)).c) fun x4 =>
 .br (x4 != part)
 (.nx 18 25 i3.2 (i3.1,i3.2+1))
 (.bt
 (.bind false (fun _=>True)
 (.br (((v.now.af.getD i3.2 default).kind) == 0)
 (.fin (.inr (((v.now.af.getD i3.2 default).kind) == 0)))
 (.fin (.inr (((v.now.af.getD i3.2 default).kind) == 1))))
 (fun (b6:Bool)=>⟨[(41,bv b6)],[]⟩) fun b6 =>
 .br b6
 (.fin (.inr (true,b6,((v.now.af.getD i3.2 default).kind) == 0)))
 (.br (((v.now.af.getD i3.2 default).kind) == 2)
 (.r 15 (.wh ((decide ((i3.2:Int)≤cz))&&((dP .i64 ((v.now.af.getD i3.2 default).flags) 2) == 0)) true ((aJ links (i3.2:Int)).c)) fun x7 =>
 .fin (.inr (((decide ((i3.2:Int)≤cz))&&((dP .i64 ((v.now.af.getD i3.2 default).flags) 2) == 0))&&x7,b6,((v.now.af.getD i3.2 default).kind) == 0)))
 (.r 10 ((aJ i3.1 ((v.now.af.getD i3.2 default).for_)).c) fun x8 =>
 .fin (.inr (x8,b6,((v.now.af.getD i3.2 default).kind) == 0)))))
 (fun (b5:Bool × Bool × Bool)=>⟨[(12,bv b5.1),(41,bv b5.2.1),(42,bv b5.2.2)],[]⟩) fun b5 =>
 .br b5.1
 (.r 17 (.aq (.o [.fU (gA eA [(i3.2:Int)])]) (.aq (.o [.fU (oe eA i3.1 [(i3.2:Int)])]) (.aq (.t (eA.qb [(i3.2:Int)])) (.p (yi i3.1.length [(i3.2:Int)].length 8))))) fun _ =>
 .r 18 .z fun _ =>
 .wi 25 (au ((i3.2:Int)+1)) ((i3.2+1:Nat):Int) <|
 .fin (.inr (i3.1++[(i3.2:Int)],i3.2+1)))
 (.nx 18 25 i3.2 (i3.1,i3.2+1))))
 (.fin (.inl (.inr i3.1))))
 (fun (b2:(List Int))=>⟨[(9,ow 100001 b2)],[(100001,bO 3 1 bU b2)]⟩) fun b2 =>
 .fin b2)
def aZ v part cz links:=(fS v part cz links).val
theorem sB (v:View) (part:Int) (cz:Int) (links:List Int):(fS v part cz links).cZ (fun (x:(List Int))=>x.length≤v.now.af.length∧∀ y,y∈x→0≤y∧y < (v.now.af.length:Int)):=by
 unfold fS
 try simp only [nX,aJ]
 exact DB
theorem rQ (v:View) (part:Int) (cz:Int) (links:List Int):(fun (x:(List Int))=>x.length≤v.now.af.length∧∀ y,y∈x→0≤y∧y < (v.now.af.length:Int)) (aZ v part cz links):=have h:=Sk.de _ (sB v part cz links); h
theorem BJ (v:View) (part:Int) (cz:Int) (links:List Int) (hl:v.lead.length≠0) (hn:v.now.af.length≤1000000):(fS v part cz links).bz (fun _=>True):=by
 unfold fS
 try simp only [nX,aJ]
 exact oh
def pU v part cz links:=kp tok mixed Tryz.func27 [av v.cells,iv part,iv cz,lv bU links] (fun x=>lv bU x) false (aZ v part cz links) (u2 (BJ v part cz links)) (sB v part cz links)
def wx (rv:View→Int→Int) (rp:View→Int→Prop) (rf:∀ (v:View) (sign:Int),rp v sign→gr Tryz.prog 61 [av v.cells,iv sign] [] (iv (rv v sign)) []) (v:View) (sign:Int):gm (Int):=⟨Tryz.prog,61,[av v.cells,iv sign],fun x=>iv x,true,rv v sign,rp v sign,rf v sign,fun _=>True,trivial⟩
def gT (rv:View→Int→Int) (rp:View→Int→Prop) (rf:∀ (v:View) (sign:Int),rp v sign→gr Tryz.prog 61 [av v.cells,iv sign] [] (iv (rv v sign)) []) (v:View) (sign:Int):Sk (Int) :=
 .r 1 (.p (bG sign v.now.af.length)) fun _ =>
 .br ((((v.now.af.getD sign.toNat default).kind) == 3)||(((v.now.af.getD sign.toNat default).kind) == 4))
 (.r 3 ((wx rv rp rf v ((v.now.af.getD sign.toNat default).for_)).c) fun x1 =>
 .fin x1)
 (.fin sign)
def aW:Nat→View→Int→Int
 | 0,_,_=>default
 | fu+1,v,sign=>(gT (aW fu) (fun _ _=>False) (fun _ _=>fun h=>h.elim) v sign).val
theorem nd (v:View) (h:v.jC):∀ (fu:Nat) (sign:Int),0≤sign→sign < (v.now.af.length:Int)→sign.toNat < fu→0≤aW fu v sign∧aW fu v sign≤sign
 | 0,_,_,_,h3=>absurd h3 (by omega)
 | fu+1,s,h1,h2,h3=>by
  have e:aW (fu+1) v s=bif (((v.now.af.getD s.toNat default).kind) == 3)||(((v.now.af.getD s.toNat default).kind) == 4) then aW fu v ((v.now.af.getD s.toNat default).for_) else s:=by kernel_rfl
  rw [e]
  cases hk:(((v.now.af.getD s.toNat default).kind) == 3)||(((v.now.af.getD s.toNat default).kind) == 4) with
  | false=>exact ⟨h1,Int.le_refl _⟩
  | true =>
   rw [cond_true]
   have:=h s.toNat (by omega) (by simpa using hk)
   have:=nd v h fu _ this.1 (by omega) (by omega)
   omega
theorem EE (fu:Nat) (rf:∀ (v:View) (sign:Int),(sign.toNat+1)≤fu∧(v.jC)∧(0≤sign∧sign < v.now.af.length)→gr Tryz.prog 61 [av v.cells,iv sign] [] (iv (aW fu v sign)) []) (v:View) (sign:Int) (hm:(sign.toNat+1)≤fu+1) (hv:v.jC) (hs:0≤sign∧sign < v.now.af.length):(gT (aW fu) (fun v sign=>(sign.toNat+1)≤fu∧(v.jC)∧(0≤sign∧sign < v.now.af.length)) rf v sign).bz (fun _=>True):=by
 refine Sk.aX _ ?_
 unfold gT
 simp only [Sk.km,Sk.aO,reduceCtorEq,ON,kk,kp,wx,maxLen]
 refine ⟨hs,fun _ hk=>?_⟩
 have:=hv sign.toNat (by omega) (by simpa using hk)
 exact ⟨by omega,hv,by omega,by omega⟩
theorem Dn (fu:Nat) (rp:View→Int→Prop) (rf:∀ (v:View) (sign:Int),rp v sign→gr Tryz.prog 61 [av v.cells,iv sign] [] (iv (aW fu v sign)) []) (v:View) (sign:Int):(gT (aW fu) rp rf v sign).val=aW (fu+1) v sign:=by kernel_rfl
theorem Dp (fu:Nat):∀ (v:View) (sign:Int),(sign.toNat+1)≤fu→v.jC→(0≤sign∧sign < v.now.af.length)→gr Tryz.prog 61 [av v.cells,iv sign] [] (iv (aW fu v sign)) []:=by
 induction fu with
 | zero=>intro v sign hm h0 h1; exact absurd hm (by omega)
 | succ fu ih =>
  intro v sign hm h0 h1
  have h:gr Tryz.prog 61 [av v.cells,iv sign] [] (iv ((gT (aW fu) (fun v sign=>(sign.toNat+1)≤fu∧(v.jC)∧(0≤sign∧sign < v.now.af.length)) (fun v sign h=>ih v sign h.1 h.2.1 h.2.2) v sign).val)) []:=gr.sk tok mixed (fun x=>iv x) (fun _=>[]) Tryz.func61 rfl (by kernel_rfl) 3000 (gT (aW fu) (fun v sign=>(sign.toNat+1)≤fu∧(v.jC)∧(0≤sign∧sign < v.now.af.length)) (fun v sign h=>ih v sign h.1 h.2.1 h.2.2) v sign) (by kernel_rfl) (EE fu _ v sign hm h0 h1)
  rw [Dn] at h
  exact h
def aw (v:View) (sign:Int):Int:=aW ((sign.toNat+1)) v sign
theorem EF (v:View) (sign:Int) (hv:v.jC) (hs:0≤sign∧sign < v.now.af.length):gr Tryz.prog 61 [av v.cells,iv sign] [] (iv (aw v sign)) []:=Dp _ v sign (Nat.le_refl _) hv hs
theorem BK (v:View) (sign:Int):(fun (x:Int)=>v.jC→0≤sign∧sign < (v.now.af.length:Int)→0≤x∧x≤sign) (aw v sign):=by
 exact fun h hs=>nd v h _ sign hs.1 hs.2 (by omega)
def sj (v:View) (sign:Int):gm (Int):=⟨Tryz.prog,61,[av v.cells,iv sign],fun x=>iv x,true,aw v sign,(v.jC)∧(0≤sign∧sign < v.now.af.length),fun h=>EF v sign h.1 h.2,fun (x:Int)=>v.jC→0≤sign∧sign < (v.now.af.length:Int)→0≤x∧x≤sign,BK v sign⟩
def iB (a:bh):Sk (Bool) :=
 .fin ((a.kind == 1)||(a.kind == 3))
def dp a:=(iB a).val
theorem qh (a:bh):dp a=((a.kind == 1)||(a.kind == 3)):=rfl
theorem ye (a:bh):(iB a).bz (fun _=>True):=by
 unfold iB
 exact pq
def l6 a:=kk tok mixed Tryz.func64 [av a.cells] (fun x=>bv x) true (iB a) (dp a) (u0 (ye a))
def fh (s:List bh):Sk (Int) :=
 .bind true (fun b1=>∀ q,q < s.length→dp (s.getD q default)=false)
 (.loop (default:Sum (Int) (Unit)) (fun i2=>∀ q,q < i2→dp (s.getD q default)=false) (fun i2=>s.length - i2) (0:Nat)
 (fun (i2:Nat)=>⟨[(8,iv (i2:Int))],[]⟩) fun i2 =>
 .lt 0 0 i2 s.length
 (.r 4 (.aq (.p (bG (i2:Int) s.length)) ((l6 (s.getD i2 default)).c)) fun x3 =>
 .br x3
 (.fin (.inl (.inl (i2:Int))))
 (.nx 6 8 i2 (i2+1)))
 (.fin (.inl (.inr ()))))
 (fun (_:Unit)=>⟨[],[]⟩) fun _ =>
 .fin (-1)
def AK s:=(fh s).val
theorem wy (s:List bh):(fh s).cZ (fun (x:Int)=>(x = -1∧∀ q,q < s.length→dp (s.getD q default)=false)∨(0≤x∧x < s.length∧dp (s.getD x.toNat default)=true∧∀ q,(q:Nat) < x.toNat→dp (s.getD q default)=false)):=by
 unfold fh
 try simp only [l6,qh]
 exact RS
theorem xz (s:List bh):(fh s).bz (fun _=>True):=by
 unfold fh
 try simp only [l6,qh]
 exact yj
def lg s:=kp tok mixed Tryz.func112 [lv bh.cells s,.fn 64 []] (fun x=>iv x) true (AK s) (u0 (xz s)) (wy s)
def dL (s:List bh):Sk (Bool) :=
 .r 1 ((lg s).c) fun x1 =>
 .fin (decide (x1≥0))
def cD s:=(dL s).val
theorem ug (s:List bh):(dL s).cZ (fun (x:Bool)=>(x=true↔∃ q,q < s.length∧dp (s.getD q default)=true)):=by
 unfold dL
 try simp only [lg]
 exact DB
theorem uv (s:List bh):(dL s).bz (fun _=>True):=by
 unfold dL
 try simp only [lg]
 exact pq
def jH s:=kp tok mixed Tryz.func63 [lv bh.cells s,.fn 64 []] (fun x=>bv x) true (cD s) (u0 (uv s)) (ug s)
structure Kept where
 shown:Int
 Ad:Int
 EG:Int
 all:Int
 deriving Inhabited
def Kept.cells (c:Kept):List D:=[dI c.shown,dI c.Ad,dI c.EG,dI c.all]
structure cy where
 r:ah
 forum:Int
 f:al
 sign:Int
 day:Int
 due:Int
 deriving Inhabited
def cy.cells (c:cy):List D:=c.r.cells++[dI c.forum]++c.f.cells++[dI c.sign,dI c.day,dI c.due]
def cy.LD (v:cy):Prop:=0≤v.f.aR.yk∧v.f.aR.yk < v.r.aI.length
def jt (r:ah) (forum:Int) (f:al) (sign:Int) (day:Int):Sk (cy) :=
 .r 1 (.dep ((ch f day).c) fun _=>(cK r forum f day).c) fun p3 =>
 .fin ({ r:=r,forum:=forum,f:=p3.1,sign:=sign,day:=day,due:=p3.2 }:cy)
def fj r forum f sign day:=(jt r forum f sign day).val
theorem BL (r:ah) (forum:Int) (f:al) (sign:Int) (day:Int):(jt r forum f sign day).cZ (fun (x:cy)=>x.r=r∧x.f=ai f day∧x.sign=sign):=by
 unfold jt
 try simp only [cK,ch,al.Small,ah.Small,ah.cG]
 exact DB
theorem Dq (r:ah) (forum:Int) (f:al) (sign:Int) (day:Int) (bM:f.Small) (cu:r.cG) (bN:r.Small):(jt r forum f sign day).bz (fun _=>True):=by
 simp only [al.Small,ah.Small,ah.cG] at bM
 simp only [al.Small,ah.Small,ah.cG] at cu
 simp only [al.Small,ah.Small,ah.cG] at bN
 unfold jt
 try simp only [cK,ch,al.Small,ah.Small,ah.cG]
 exact oh
def qK r forum f sign day:=kp tok mixed Tryz.func113 [av r.cells,iv forum,av f.cells,iv sign,iv day] (fun x=>av x.cells) false (fj r forum f sign day) (u3 (Dq r forum f sign day)) (BL r forum f sign day)
def gn (v:cy) (kind:Int) (from_:Int):Sk (Int) :=
 .bt
 (.loop (default:Sum (Int) (Unit)) (fun i2=>i2≤v.f.aA.length) (fun i2=>v.f.aA.length - i2) (0:Nat)
 (fun (i2:Nat)=>⟨[(13,iv (i2:Int))],[]⟩) fun i2 =>
 .lt 11 0 i2 v.f.aA.length
 (.r 3 (.p (bG (i2:Int) v.f.aA.length)) fun _ =>
 .br (((((v.f.aA.getD i2 default).kind) == kind)&&(((v.f.aA.getD i2 default).cj) == v.f.aR.mZ))&&(decide (((v.f.aA.getD i2 default).day)≥from_)))
 (.fin (.inl (.inl ((v.f.aA.getD i2 default).day))))
 (.nx 6 13 i2 (i2+1)))
 (.fin (.inl (.inr ()))))
 (fun (_:Unit)=>⟨[],[]⟩) fun _ =>
 .fin (-1)
def dq v kind from_:=(gn v kind from_).val
theorem wz (v:cy) (kind:Int) (from_:Int):(gn v kind from_).bz (fun _=>True):=by
 unfold gn
 exact oh
def dH v kind from_:=kk tok mixed Tryz.func150 [av v.cells,iv kind,iv from_] (fun x=>iv x) true (gn v kind from_) (dq v kind from_) (u0 (wz v kind from_))
structure qi where
 known:Bool
 last:Int
 deriving Inhabited
def qi.cells (c:qi):List D:=[dB c.known,dI c.last]
def gE (v:cy):Sk (qi) :=
 .r 1 ((ot v.r v.forum 7 v.f v.day).c) fun x1 =>
 .br (x1.err != 0)
 (.fin ({ known:=true,last:=9223372036854775807 }:qi))
 (.br (!x1.cell.known)
 (.fin ({ known:=false,last:=0 }:qi))
 (.br (decide ((au (v.f.aR.day+x1.cell.n)) > 100000))
 (.fin ({ known:=true,last:=9223372036854775807 }:qi))
 (.fin ({ known:=true,last:=au (v.f.aR.day+x1.cell.n) }:qi))))
def fq v:=(gE v).val
theorem xA (v:cy) (gM:v.f.Small) (l5:v.r.cG) (kr:v.r.Small):(gE v).bz (fun _=>True):=by
 unfold gE
 try simp only [ot]
 exact oh
def iC v:=kk tok mixed Tryz.func151 [av v.cells] (fun x=>av x.cells) true (gE v) (fq v) (u3 (xA v))
def fZ (v:cy) (on:Int) (t:qi):Sk (Int) :=
 .br (!t.known)
 (.fin 2)
 (.br ((on != (-1))&&(decide (on≤t.last)))
 (.fin 1)
 (.br ((on != (-1))||(decide (v.day > t.last)))
 (.fin 0)
 (.fin 2)))
def cx v on t:=(fZ v on t).val
theorem vq (v:cy) (on:Int) (t:qi):(fZ v on t).bz (fun _=>True):=by
 unfold fZ
 exact pq
def eM v on t:=kk tok mixed Tryz.func149 [av v.cells,iv on,av t.cells] (fun x=>iv x) true (fZ v on t) (cx v on t) (u0 (vq v on t))
def fE (v:cy):Sk (Int) :=
 .r 1 ((dH v 1 0).c) fun x1 =>
 .br (decide (x1 > v.due))
 (.fin (-1))
 (.fin x1)
def cP v:=(fE v).val
theorem uw (v:cy):(fE v).bz (fun _=>True):=by
 unfold fE
 try simp only [dH]
 exact pq
def ed v:=kk tok mixed Tryz.func152 [av v.cells] (fun x=>iv x) true (fE v) (cP v) (u0 (uw v))
def mO (l:List Int):Sk (Int) :=
 .r 1 ((aJ l 0).c) fun x1 =>
 .br x1
 (.fin 0)
 (.r 3 ((aJ l 2).c) fun x2 =>
 .br x2
 (.fin 2)
 (.fin 1))
def cV l:=(mO l).val
theorem EH (l:List Int):(mO l).bz (fun _=>True):=by
 unfold mO
 try simp only [aJ]
 exact pq
def gv l:=kk tok mixed Tryz.func119 [lv bU l] (fun x=>iv x) true (mO l) (cV l) (u0 (EH l))
def gp (v:cy) (aU:Int):Sk (lV) :=
 .r 1 ((gR v.r v.forum aU ({ file:=v.f,sign:=v.sign,jD:=v.sign,jN:=(-1),due:=v.due,day:=v.day }:fw)).c) fun x1 =>
 .fin x1
def bw v aU:=(gp v aU).val
theorem wA (v:cy) (aU:Int) (gM:v.f.Small) (l5:v.r.cG) (kr:v.r.Small):(gp v aU).bz (fun _=>True):=by
 unfold gp
 try simp only [gR]
 exact oh
def aY v aU:=kk tok mixed Tryz.func116 [av v.cells,iv aU] (fun x=>av x.cells) false (gp v aU) (bw v aU) (u3 (wA v aU))
def mP (c_:jA) (day:Int) (n:Int):Sk (Int × Int) :=
 .r 1 ((fR day).c) fun x1 =>
 .br (((!x1)||(decide (n < 0)))||(decide (n > 20000)))
 (.fin (0,3))
 (.bt
 (.loop (default:Sum (Int × Int) (Int)) (fun i3=>0≤i3.2∧i3.2≤n∧0≤i3.1∧i3.1≤100000) (fun i3=>(n - i3.2).toNat) ((day,0):Int × Int)
 (fun (i3:Int × Int)=>⟨[(1,iv i3.1),(22,iv i3.2)],[]⟩) fun i3 =>
 .br (decide (i3.2 < n))
 (.r 5 ((kR c_ (au (i3.1+1))).c) fun x4 =>
 .br (x4.2 != 0)
 (.fin (.inl (.inl (0,x4.2))))
 (.fin (.inr (x4.1,au (i3.2+1)))))
 (.fin (.inl (.inr i3.1))))
 (fun (b2:Int)=>⟨[(1,iv b2)],[]⟩) fun b2 =>
 .fin (b2,0))
def vr c_ day n:=(mP c_ day n).val
theorem EI (c_:jA) (day:Int) (n:Int):(mP c_ day n).bz (fun _=>True):=by
 unfold mP
 try simp only [kR,fR,pM]
 exact yj
def xV c_ day n:=kk tok mixed Tryz.func194 [av c_.cells,iv day,iv n] (fun x=>.fL [iv x.1,iv x.2]) true (mP c_ day n) (vr c_ day n) (u0 (EI c_ day n))
def gF (v:cy) (said:lV) (from_:Int):Sk (qi) :=
 .br (said.err != 0)
 (.fin ({ known:=true,last:=9223372036854775807 }:qi))
 (.br (!said.cell.known)
 (.fin ({ known:=false,last:=0 }:qi))
 (.r 5 (.aq (.p (bG v.f.aR.yk v.r.aI.length)) ((xV (v.r.aI.getD v.f.aR.yk.toNat default) from_ said.cell.n).c)) fun x1 =>
 .br (x1.2 != 0)
 (.fin ({ known:=true,last:=9223372036854775807 }:qi))
 (.fin ({ known:=true,last:=x1.1 }:qi))))
def cp v said from_:=(gF v said from_).val
theorem xB (v:cy) (said:lV) (from_:Int) (hp:v.LD):(gF v said from_).bz (fun _=>True):=by
 unfold gF
 try simp only [xV]
 exact oh
def bK v said from_:=kk tok mixed Tryz.func153 [av v.cells,av said.cells,iv from_] (fun x=>av x.cells) true (gF v said from_) (cp v said from_) (xB v said from_)
def db (v:cy):Sk (Int) :=
 .br (v.f.aR.cR.kind == 0)
 (.r 3 (.dep ((dH v 2 0).c) fun x1=>.dep ((iC v).c) fun x2=>(eM v x1 x2).c) fun p4 =>
 .fin p4.2.2)
 (.bind false (fun _=>True)
 (.br (v.f.aR.cR.kind == 1)
 (.r 6 (.dep ((nz v.f).c) fun x6=>.dep ((iC v).c) fun x7=>(eM v x6 x7).c) fun p9 =>
 .fin (.inr p9.2.2))
 (.fin (.inr 1)))
 (fun (b5:Int)=>⟨[(4,iv b5)],[]⟩) fun b5 =>
 .r 7 ((ed v).c) fun N8 =>
 .br (N8 != (-1))
 (.fin b5)
 (.br (v.due == (-1))
 (.r 10 (.aq (.o [.fU (gA eA [b5,2])]) ((gv [b5,2]).c)) fun x11 =>
 .fin x11)
 (.r 11 (.dep ((dH v 2 v.due).c) fun YX=>.dep ((aY v 10).c) fun Ie=>.dep ((bK v Ie v.due).c) fun x14=>.dep ((eM v YX x14).c) fun x15=>.aq (.o [.fU (gA eA [b5,x15])]) ((gv [b5,x15]).c)) fun p17 =>
 .fin p17.2.2.2.2)))
def cW v:=(db v).val
theorem sY (v:cy) (gM:v.f.Small) (l5:v.r.cG) (kr:v.r.Small) (LF:v.LD):(db v).bz (fun _=>True):=by
 refine Sk.aX _ ?_
 unfold db
 simp (maxSteps:=2000000) only [Sk.km,Sk.aO,reduceCtorEq,ON,kk,kp,gv,aY,bK,dH,ed,iC,eM,nz,maxLen]
 all_goals (repeat' first | assumption | (apply And.intro) | (intro h))
 all_goals first | trivial | assumption | omega | ((try simp only [LN] at *) <;> first | omega | (refine (aG ?_ ?_).trans ?_ <;> omega) | (simp (disch:=omega) only [aG] at *; omega) | (grind) | (simp_all; done) | (simp_all; omega))
def hZ v:=kk tok mixed Tryz.func114 [av v.cells] (fun x=>iv x) true (db v) (cW v) (u4 (sY v))
def eO (v:cy):Sk (Int) :=
 .r 1 ((ed v).c) fun x1 =>
 .br (x1 != (-1))
 (.fin x1)
 (.fin v.due)
def bC v:=(eO v).val
theorem sZ (v:cy):(eO v).bz (fun _=>True):=by
 unfold eO
 try simp only [ed]
 exact pq
def cw v:=kk tok mixed Tryz.func154 [av v.cells] (fun x=>iv x) true (eO v) (bC v) (u0 (sZ v))
def dc (v:cy):Sk (Int) :=
 .r 1 ((cw v).c) fun x1 =>
 .r 2 (.dep ((aY v 10).c) fun x2=>(bK v x2 x1).c) fun UK =>
 .br (!UK.2.known)
 (.fin 2)
 (.bind false (fun _=>True)
 (.br (decide (v.day≤UK.2.last))
 (.fin (.inr 2))
 (.fin (.inr 0)))
 (fun (b4:Int)=>⟨[(5,iv b4)],[]⟩) fun b4 =>
 .bt
 (.loop (default:Sum (Int) (Int)) (fun i6=>i6.2≤v.f.aA.length) (fun i6=>v.f.aA.length - i6.2) ((b4,0):Int × Nat)
 (fun (i6:Int × Nat)=>⟨[(5,iv i6.1),(28,iv (i6.2:Int))],[]⟩) fun i6 =>
 .lt 26 0 i6.2 v.f.aA.length
 (.r 10 (.p (bG (i6.2:Int) v.f.aA.length)) fun _ =>
 .br ((((((v.f.aA.getD i6.2 default).kind) != 4)||(((v.f.aA.getD i6.2 default).cj) != v.f.aR.mZ))||(decide (((v.f.aA.getD i6.2 default).day) < x1)))||(decide (((v.f.aA.getD i6.2 default).day) > UK.2.last)))
 (.nx 19 28 i6.2 (i6.1,i6.2+1))
 (.bind false (fun _=>True)
 (.br (((v.f.aA.getD i6.2 default).form) == 1)
 (.r 14 (.dep ((aY v 9).c) fun x8=>(fp x8).c) fun RV =>
 .fin (.inr RV.2))
 (.fin (.inr 1)))
 (fun (b7:Int)=>⟨[(8,iv b7)],[]⟩) fun b7 =>
 .br (b7 == 1)
 (.fin (.inl (.inl 1)))
 (.br (b7 == 2)
 (.nx 19 28 i6.2 (2,i6.2+1))
 (.nx 19 28 i6.2 (i6.1,i6.2+1)))))
 (.fin (.inl (.inr i6.1))))
 (fun (b5:Int)=>⟨[(5,iv b5)],[]⟩) fun b5 =>
 .fin b5)
def cX v:=(dc v).val
theorem s5 (v:cy) (gM:v.f.Small) (l5:v.r.cG) (kr:v.r.Small) (LF:v.LD):(dc v).bz (fun _=>True):=by
 unfold dc
 try simp only [fp,aY,bK,cw]
 exact oh
def ig v:=kk tok mixed Tryz.func117 [av v.cells] (fun x=>iv x) true (dc v) (cX v) (u4 (s5 v))
def jU (said:lV) (answer:Int):Sk (Int) :=
 .r 1 ((fp said).c) fun x1 =>
 .br ((x1 == 0)||(answer == 1))
 (.fin 1)
 (.br (x1 == 2)
 (.fin 2)
 (.fin answer))
def gU said answer:=(jU said answer).val
theorem AL (said:lV) (answer:Int):(jU said answer).bz (fun _=>True):=by
 unfold jU
 try simp only [fp]
 exact pq
def kJ said answer:=kk tok mixed Tryz.func115 [av said.cells,iv answer] (fun x=>iv x) true (jU said answer) (gU said answer) (u0 (AL said answer))
def cM (v:cy):Sk (Int) :=
 .r 1 ((cw v).c) fun x1 =>
 .r 2 ((aY v 12).c) fun x2 =>
 .r 3 ((bK v x2 x1).c) fun x3 =>
 .br (!x3.known)
 (.fin 2)
 (.bt
 (.loop (default:Sum (Int) (Int)) (fun i5=>i5.2.2≤v.f.aA.length∧i5.2.1.length≤i5.2.2) (fun i5=>v.f.aA.length - i5.2.2) ((x3.last,[],0):Int × (List bh) × Nat)
 (fun (i5:Int × (List bh) × Nat)=>⟨[(6,iv i5.1),(7,ow 100005 i5.2.1),(30,iv (i5.2.2:Int))],[(100005,bO 62 9 bh.cells i5.2.1)]⟩) fun i5 =>
 .lt 28 0 i5.2.2 v.f.aA.length
 (.bind true (fun b6=>b6.2.1.length≤i5.2.1.length+1)
 (.r 10 (.p (bG (i5.2.2:Int) v.f.aA.length)) fun _ =>
 .br (((v.f.aA.getD i5.2.2 default).kind) != 5)
 (.fin (.inr (i5.1,i5.2.1,v.f.aA.getD i5.2.2 default,(v.f.aA.getD i5.2.2 default).kind,((v.f.aA.getD i5.2.2 default).kind) != 5)))
 (.bt
 (.loop (default:Sum (Sum (Sum (Sum (Int) (Int)) (Int × (List bh) × Nat)) (Int × (List bh) × bh × Int × Bool)) (Bool × Int × Bool)) (fun i8=>i8.2≤i5.2.1.length) (fun i8=>i5.2.1.length - i8.2) (((decide (((v.f.aA.getD i5.2.2 default).day)≥x1))&&(decide (((v.f.aA.getD i5.2.2 default).day)≤x3.last)),0):Bool × Nat)
 (fun (i8:Bool × Nat)=>⟨[(10,bv i8.1),(50,iv (i8.2:Int))],[]⟩) fun i8 =>
 .lt 7 0 i8.2 i5.2.1.length
 (.r 15 (.aq (.p (bG (i8.2:Int) i5.2.1.length)) (.p (i8.2 < i5.2.1.length))) fun _ =>
 .r 16 (.wh i8.1 false (.wh (((i5.2.1.getD i8.2 default).cj) == ((v.f.aA.getD i5.2.2 default).dt)) true ((bK v x2 ((i5.2.1.getD i8.2 default).day)).c))) fun x9 =>
 .r 17 .z fun _ =>
 .wi 50 (au ((i8.2:Int)+1)) ((i8.2+1:Nat):Int) <|
 .fin (.inr (i8.1||((((i5.2.1.getD i8.2 default).cj) == ((v.f.aA.getD i5.2.2 default).dt))&&(decide (((v.f.aA.getD i5.2.2 default).day)≤x9.last))),i8.2+1)))
 (.fin (.inl (.inr (i8.1,(i8.2:Int),decide ((i8.2:Int) < ((i5.2.1.length:Nat):Int)))))))
 (fun (b7:Bool × Int × Bool)=>⟨[(10,bv b7.1),(50,iv b7.2.1),(51,bv b7.2.2)],[]⟩) fun b7 =>
 .br (!b7.1)
 (.fin (.inr (i5.1,i5.2.1,v.f.aA.getD i5.2.2 default,(v.f.aA.getD i5.2.2 default).kind,((v.f.aA.getD i5.2.2 default).kind) != 5)))
 (.r 19 (.p (bG v.sign v.f.af.length)) fun _ =>
 .br (((v.f.aA.getD i5.2.2 default).cj) == ((v.f.af.getD v.sign.toNat default).dt))
 (.fin (.inl (.inl (.inl 1))))
 (.r 21 (.aq (.o [.fU (gA bh.E [v.f.aA.getD i5.2.2 default])]) (.aq (.o [.fU (oe bh.E i5.2.1 [v.f.aA.getD i5.2.2 default])]) (.aq (.t (bh.E.qb [v.f.aA.getD i5.2.2 default])) (.p (yi i5.2.1.length [v.f.aA.getD i5.2.2 default].length 72))))) fun _ =>
 .r 22 ((bK v x2 ((v.f.aA.getD i5.2.2 default).day)).c) fun N8 =>
 .fin (.inr (cg i5.1 N8.last,i5.2.1++[v.f.aA.getD i5.2.2 default],v.f.aA.getD i5.2.2 default,(v.f.aA.getD i5.2.2 default).kind,((v.f.aA.getD i5.2.2 default).kind) != 5))))))
 (fun (b6:Int × (List bh) × bh × Int × Bool)=>⟨[(6,iv b6.1),(7,ow 100007 b6.2.1),(33,av b6.2.2.1.cells),(35,iv b6.2.2.2.1),(36,bv b6.2.2.2.2)],[(100007,bO 62 9 bh.cells b6.2.1)]⟩) fun b6 =>
 .nx 23 30 i5.2.2 (b6.1,b6.2.1,i5.2.2+1))
 (.fin (.inl (.inr i5.1))))
 (fun (b4:Int)=>⟨[(6,iv b4)],[]⟩) fun b4 =>
 .br (decide (v.day > b4))
 (.fin 0)
 (.fin 2))
def df v:=(cM v).val
theorem uh (v:cy) (hs:0≤v.sign∧v.sign < (v.f.af.length:Int)) (gM:v.f.Small) (l5:v.r.cG) (kr:v.r.Small) (LF:v.LD):(cM v).bz (fun _=>True):=by
 refine Sk.aX _ ?_
 unfold cM
 simp only [Sk.km,Sk.aO,reduceCtorEq,ON,kk,kp,aY,bK,cw,maxLen]
 have hS1:=gM.2.2.1
 all_goals exact okT
def iJ v:=kk tok mixed Tryz.func118 [av v.cells] (fun x=>iv x) true (cM v) (df v) (u5 (uh v))
def ju (r:ah) (forum:Int) (f:al) (sign:Int) (day:Int):Sk (Kept) :=
 .r 1 ((qK r forum f sign day).c) fun x1 =>
 .br ((decide (sign < 0))||(decide (sign≥((x1.f.af.length:Nat):Int))))
 (.fin ({ shown:=0,Ad:=0,EG:=0,all:=0 }:Kept))
 (.r 5 ((hZ x1).c) fun x2 =>
 .bind false (fun _=>True)
 (.br (x1.due != (-1))
 (.r 7 (.dep ((aY x1 8).c) fun x4=>.dep ((ig x1).c) fun x5=>(kJ x4 x5).c) fun UK =>
 .r 8 (.dep ((aY x1 11).c) fun x7=>.dep ((iJ x1).c) fun x8=>(kJ x7 x8).c) fun RV =>
 .fin (.inr ({ shown:=x2,Ad:=UK.2.2,EG:=RV.2.2,all:=0 }:Kept)))
 (.fin (.inr ({ shown:=x2,Ad:=2,EG:=2,all:=0 }:Kept))))
 (fun (b3:Kept)=>⟨[],[(12,.box (b3.cells.map .d))]⟩) fun b3 =>
 .r 9 (.aq (.o [.fU (gA eA [b3.shown,b3.Ad,b3.EG])]) ((gv [b3.shown,b3.Ad,b3.EG]).c)) fun YX =>
 .fin ({ b3 with all:=YX }))
def ij r forum f sign day:=(ju r forum f sign day).val
theorem Dr (r:ah) (forum:Int) (f:al) (sign:Int) (day:Int) (hF:cm r f) (bM:f.Small) (cu:r.cG) (bN:r.Small):(ju r forum f sign day).bz (fun _=>True):=by
 refine Sk.aX _ ?_
 unfold ju
 simp only [Sk.km,Sk.aO,reduceCtorEq,ON,kk,kp,gv,qK,kJ,aY,iJ,hZ,ig,maxLen]
 refine ⟨⟨bM,cu,bN⟩,fun x _ hx hc=>?_⟩
 have hS:x.f.Small:=by rw [hx.2.1]; exact zc bM day
 have hB:x.r.cG:=by rw [hx.1]; exact cu
 have hR:x.r.Small:=by rw [hx.1]; exact bN
 have hp:x.LD:=by unfold cy.LD; rw [hx.1,hx.2.1,PY]; exact hF.1.2.1
 have hs:0≤x.sign∧x.sign < (x.f.af.length:Int):=by rw [hx.2.2]; simp only [LN] at hc; omega
 all_goals exact okT
def qL r forum f sign day:=kk tok mixed Tryz.func65 [av r.cells,iv forum,av f.cells,iv sign,iv day] (fun x=>av x.cells) true (ju r forum f sign day) (ij r forum f sign day) (u4 (Dr r forum f sign day))
theorem uW {d:Array Int} {n:Nat} (hs:∀ i j,i≤j→j < n→d[i]!≤d[j]!):∀ m,m≤n→(Lib.compactUpTo d m).Pairwise (· < ·)∧∀ x,x∈Lib.compactUpTo d m↔∃ j,j < m∧d[j]! = x
 | 0,_=>by simp [Lib.compactUpTo]
 | m+1,hm=>by
  obtain ⟨h1,h2⟩:=uW hs m (by omega)
  rw [Lib.compactUpTo_succ]
  by_cases hk:Lib.keeps d m=true
  ·rw [if_pos hk]
   refine ⟨List.pairwise_append.2 ⟨h1,by simp,fun a ha b hb=>?_⟩,fun x=>?_⟩
   ·simp only [List.mem_singleton] at hb
    subst hb
    obtain ⟨j,hj,rfl⟩:=(h2 a).1 ha
    have h3:=hs j (m - 1) (by omega) (by omega)
    have h4:=hs (m - 1) m (by omega) (by omega)
    simp only [Lib.keeps,decide_eq_true_eq] at hk
    rcases hk with hk | hk
    ·omega
    ·omega
   ·rw [List.mem_append,h2,List.mem_singleton]
    constructor
    ·rintro (⟨j,hj,rfl⟩ | rfl)
     ·exact ⟨j,by omega,rfl⟩
     ·exact ⟨m,by omega,rfl⟩
    ·rintro ⟨j,hj,rfl⟩
     by_cases e:j=m
     ·subst e; exact .inr rfl
     ·exact .inl ⟨j,by omega,rfl⟩
  ·rw [if_neg hk,List.append_nil]
   refine ⟨h1,fun x=>(h2 x).trans ?_⟩
   constructor
   ·rintro ⟨j,hj,rfl⟩
    exact ⟨j,by omega,rfl⟩
   ·rintro ⟨j,hj,rfl⟩
    by_cases e:j=m
    ·subst e
     simp only [Lib.keeps,decide_eq_true_eq,not_or] at hk
     have:¬ d[j]!≠d[j - 1]!:=hk.2
     exact ⟨j - 1,by omega,by omega⟩
    ·exact ⟨j,by omega,rfl⟩
theorem Ng (l:List Int):(Lib.compact (iG l)).Pairwise (· < ·)∧∀ x,x∈Lib.compact (iG l)↔x∈l:=by
 have hp:(iG l).Pairwise (·≤·):=by
  have:=List.pairwise_mergeSort (le:=fun x y:Int=>decide (x≤y)) (fun a b c h1 h2=>by simp at *; omega) (fun a b=>by simp; omega) l
  exact this.imp (fun h=>by simpa using h)
 have hg:∀ j,j < (iG l).length→(iG l).toArray[j]! = (iG l).getD j default:=fun j hj=>by simp [List.getD,hj]
 have hs:∀ i j,i≤j→j < (iG l).length→(iG l).toArray[i]!≤(iG l).toArray[j]!:=fun i j hij hj=>by
  rw [hg i (by omega),hg j hj]
  by_cases e:i=j
  ·subst e; exact Int.le_refl _
  ·have:=List.pairwise_iff_getElem.1 hp i j (by omega) hj (by omega)
   simpa [List.getD,hj,show i < (iG l).length by omega] using this
 obtain ⟨h1,h2⟩:=uW hs (iG l).length (Nat.le_refl _)
 refine ⟨h1,fun x=>(h2 x).trans (Iff.trans ?_ (List.mergeSort_perm l fun x y=>decide (x≤y)).mem_iff)⟩
 constructor
 ·rintro ⟨j,hj,rfl⟩
  rw [hg j hj]
  exact tI hj _
 ·intro hx
  obtain ⟨i,hi,rfl⟩:=List.getElem_of_mem hx
  have fM:i < (iG l).length:=hi
  refine ⟨i,fM,(hg i fM).trans ?_⟩
  show (iG l).getD i default=(iG l)[i]
  simp [List.getD,fM]
theorem Fi {β Y:Type} {γ:Type} (sg:γ→List β) (se:Y→β) {δ:Type} (sd:δ→List β) {f:γ→Y→δ ⊕ γ}:∀ (l:List Y) (s:γ),(∀ s y,match f s y with | .inl e=>sd e=sg s | .inr s'=>sg s'=sg s++[se y]) →
  ∃ k,(match ph f l s with | .inl e=>sd e | .inr s'=>sg s')=sg s++(l.take k).map se
 | [],s,_=>⟨0,by simp [ph]⟩
 | y :: r,s,h=>by
  have h1:=h s y
  simp only [ph]
  cases e:f s y with
  | inl b=>rw [e] at h1; exact ⟨0,by simpa using h1⟩
  | inr s' =>
   rw [e] at h1
   obtain ⟨k,hk⟩:=Fi sg se sd r s' h
   refine ⟨k+1,?_⟩
   rw [hk,h1]
   simp
theorem I7 (f:al) (part day:Int):∃ k,(kx f part day).af=((bo f day part).take k).map (·.1):=by
 unfold kx kb
 dsimp +instances only [Sk.dh,Sk.gd,Sk.iY,Sk.eQ,Sk.iE,Sk.lT,Sk.cO,Sk.WM,gm.xP,kk,kp,bg.pn,jP,jq,fY,ri]
 obtain ⟨k,hk⟩:=Fi (fun s:List Int × Int × Bool × Int × List Int=>s.1) (fun y:Int × Sign=>y.1) (fun e:List Int × Int × Int × Bool × Int × List Int=>e.1)
  (f:=fun s y=>bif (!s.2.2.1)&&(y.2.dt != s.2.1) then .inl (s.1,s.2.1,y.1,s.2.2.1,s.2.2.2.1,s.2.2.2.2) else bif (jo f day).2&&decide (y.2.day > (jo f day).1) then .inr (s.1++[y.1],y.2.cj,y.2.cj == (-1),zB s.2.2.2.1 y.2.flags,s.2.2.2.2++[y.1]) else .inr (s.1++[y.1],y.2.cj,y.2.cj == (-1),zB s.2.2.2.1 y.2.flags,s.2.2.2.2))
  (bo f day part) ([],f.aR.kq,f.aR.kq == (-1),0,[]) (fun s y=>by
   cases (!s.2.2.1)&&(y.2.dt != s.2.1)
   ·cases (jo f day).2&&decide (y.2.day > (jo f day).1) <;> rfl
   ·rfl)
 refine ⟨k,?_⟩
 rw [List.nil_append] at hk
 rw [← hk]
 generalize hr:ph _ _ _=r
 cases r <;> rfl
theorem Qi (f:al) (day part:Int):((bo f day part).map (·.1)).Pairwise (· < ·):=by
 unfold bo
 rw [List.map_map,List.pairwise_map]
 have h:(List.range f.af.length).Pairwise (· < ·):=List.pairwise_lt_range
 exact (h.sublist List.filter_sublist).imp (fun h=>by simp; omega)
theorem Nh (v:View) (part:Int):(aj v part).Pairwise (· < ·):=by
 have e:aj v part=(kx v.all part v.day).af:=rfl
 obtain ⟨k,hk⟩:=I7 v.all part v.day
 rw [e,hk,List.map_take]
 exact (Qi v.all v.day part).sublist (List.take_sublist _ _)
theorem EJ {v:View} {part y:Int} (h:y∈aj v part):0≤y∧y < v.all.af.length∧(v.all.af.getD y.toNat default).kind=2∧(v.all.af.getD y.toNat default).part=part∧(v.all.af.getD y.toNat default).day≤v.day∧Cu (fc v.all v.day) y false=false:=by
 have e:aj v part=(kx v.all part v.day).af:=rfl
 obtain ⟨k,hk⟩:=I7 v.all part v.day
 rw [e,hk] at h
 obtain ⟨z,hz,rfl⟩:=List.mem_map.1 h
 obtain ⟨i,hi⟩:=List.getElem?_of_mem ((List.take_sublist _ _).subset hz)
 have:=I4 hi
 rw [← this.2.2.2.1]
 exact ⟨this.2.1,this.2.2.1,this.2.2.2.2⟩
theorem uX (c:eu) (last:Int):∀ (links:List Int) (o z:kd),z∈dG c last links o→(z.sign=o.sign∧z.fA=o.fA∨z.sign∈links∧z.fA=(c.view.now.af.getD z.sign.toNat default).cj)∧(z.state=2∨z.state=o.state)
 | [],o,z,h=>by
  simp only [dG,List.mem_singleton] at h
  subst h
  exact ⟨.inl ⟨rfl,rfl⟩,.inr rfl⟩
 | l :: r,o,z,h=>by
  simp only [dG] at h
  cases h0:bj c l last == 0 with
  | true =>
   rw [h0,cond_true,List.mem_singleton] at h
   subst h
   exact ⟨.inl ⟨rfl,rfl⟩,.inr rfl⟩
  | false =>
   rw [h0,cond_false] at h
   have ih:∀ o',o'.sign=l→o'.fA=(c.view.now.af.getD l.toNat default).cj→(o'.state=2∨o'.state=o.state)→z∈dG c last r o'→(z.sign=o.sign∧z.fA=o.fA∨z.sign∈l :: r∧z.fA=(c.view.now.af.getD z.sign.toNat default).cj)∧(z.state=2∨z.state=o.state):=by
    intro o' e1 e2 e3 hz
    obtain ⟨h1,h2⟩:=uX c last r o' z hz
    refine ⟨.inr ?_,?_⟩
    ·rcases h1 with ⟨h1,h3⟩ | ⟨h1,h3⟩
     ·rw [h1,e1]; exact ⟨by simp,by rw [h3,e2]⟩
     ·exact ⟨by simp [h1],h3⟩
    ·rcases h2 with h2 | h2
     ·exact .inl h2
     ·rw [h2]; exact e3
   cases h2:bj c l last == 2 with
   | true =>
    rw [h2,cond_true] at h
    rcases List.mem_cons.1 h with rfl | h
    ·exact ⟨.inl ⟨rfl,rfl⟩,.inl rfl⟩
    ·exact ih _ rfl rfl (.inl rfl) h
   | false =>
    rw [h2,cond_false] at h
    exact ih { o with fA:=(c.view.now.af.getD l.toNat default).cj,sign:=l } rfl rfl (.inr rfl) h
theorem vt (c:eu) (last:Int):∀ (links:List Int) (o:kd),(∀ y,y∈links→o.sign < y)→links.Pairwise (· < ·)→(dG c last links o).Pairwise (fun a b=>a.sign < b.sign)
 | [],o,_,_=>by simp [dG]
 | l :: r,o,ho,hp=>by
  rw [List.pairwise_cons] at hp
  have hl:=ho l (by simp)
  simp only [dG]
  cases h0:bj c l last == 0 with
  | true=>simp
  | false =>
   rw [cond_false]
   cases h2:bj c l last == 2 with
   | true =>
    rw [cond_true,List.pairwise_cons]
    refine ⟨fun z hz=>?_,vt c last r _ hp.1 hp.2⟩
    rcases (uX c last r _ z hz).1 with ⟨h,-⟩ | ⟨h,-⟩
    ·show o.sign < z.sign
     rw [h]; exact hl
    ·exact Int.lt_trans hl (hp.1 _ h)
   | false=>exact vt c last r _ hp.1 hp.2
theorem I8 {c:eu} {links:List Int} {z:kd} (h:z∈bn c links):(z.sign = -1∧z.fA=c.view.now.aR.kq∨z.sign∈links∧z.fA=(c.view.now.af.getD z.sign.toNat default).cj)∧(z.state=1∨z.state=2):=by
 have:=uX c _ links _ z h
 exact ⟨this.1,this.2.symm⟩
theorem Ni {c:eu} {links:List Int} (h0:∀ y,y∈links→0≤y) (hp:links.Pairwise (· < ·)):(bn c links).Pairwise (fun a b=>a.sign < b.sign) :=
 vt c _ links _ (fun y hy=>by have:=h0 y hy; show (-1:Int) < y; omega) hp
theorem zE (c:eu) (last:Int):∀ (links:List Int) (o:kd),(dG c last links o).length≤links.length+1
 | [],o=>by simp [dG]
 | l :: r,o=>by
  simp only [dG]
  cases bj c l last == 0 with
  | true=>simp
  | false =>
   rw [cond_false]
   cases bj c l last == 2 with
   | true=>rw [cond_true,List.length_cons,List.length_cons]; have:=zE c last r { fA:=(c.view.now.af.getD l.toNat default).cj,sign:=l,state:=2 }; omega
   | false=>rw [cond_false,List.length_cons]; have:=zE c last r { o with fA:=(c.view.now.af.getD l.toNat default).cj,sign:=l }; omega
theorem BM (c:eu) (links:List Int):(bn c links).length≤links.length+1:=zE c _ links _
def Nj (v:View) (cz:Int) (links l:List Int) (i:Nat):Bool :=
 bif ((v.now.af.getD i default).kind == 0)||((v.now.af.getD i default).kind == 1) then true else
 bif (v.now.af.getD i default).kind == 2 then ((decide (((i:Nat):Int)≤cz))&&((dP .i64 ((v.now.af.getD i default).flags) 2) == 0))&&bD links ((i:Nat):Int)
 else bD l ((v.now.af.getD i default).for_)
def vu (v:View) (part cz:Int) (links:List Int) (i:Nat) (l:List Int):List Int :=
 bif eV v ((i:Nat):Int) != part then l else bif Nj v cz links l i then l++[((i:Nat):Int)] else l
def pV (v:View) (part cz:Int) (links:List Int):Nat→List Int
 | 0=>[]
 | n+1=>vu v part cz links n (pV v part cz links n)
theorem Ae {α ι δ:Type} (n:Nat) (h:Nat→α) (pack:α→Nat→ι) {f:ι→δ ⊕ ι} {d:δ} (e:α→δ) (hs:∀ i,i < n→f (pack (h i) i)=.inr (pack (h (i+1)) (i+1))) (he:f (pack (h n) n)=.inl (e (h n))) {m:Nat} (hm:n < m):iter f d m (pack (h 0) 0)=e (h n):=by
 have key:∀ k,k≤n→∀ m,k < m→iter f d m (pack (h (n - k)) (n - k))=e (h n):=by
  intro k
  induction k with
  | zero =>
   intro _ m hm
   obtain ⟨m,rfl⟩:∃ q,m=q+1:=⟨m - 1,by omega⟩
   simp only [iter,Nat.sub_zero,he]
  | succ k ih =>
   intro hk m hm
   obtain ⟨m,rfl⟩:∃ q,m=q+1:=⟨m - 1,by omega⟩
   simp only [iter,hs (n - (k+1)) (by omega)]
   rw [show n - (k+1)+1=n - k by omega]
   exact ih (by omega) m (by omega)
 have:=key n (Nat.le_refl _) m hm
 rwa [Nat.sub_self] at this
theorem Af (v:View) (part cz:Int) (links:List Int):aZ v part cz links=bif (cz != (-1))&&(!(bD links cz)) then [] else pV v part cz links v.now.af.length:=by
 unfold aZ fS
 dsimp +instances only [Sk.dh,Sk.gd,Sk.iY,Sk.eQ,Sk.iE,Sk.lT,Sk.cO,gm.xP,kk,kp,bg.pn,bg.Pn,aJ,nX]
 cases (cz != (-1))&&(!(bD links cz)) with
 | true=>rfl
 | false =>
  refine congrArg (fun q=>gH q fun b=>b) (Ae v.now.af.length (pV v part cz links) (fun s i=>(s,i)) (fun s=>Sum.inr s) (fun i hi=>?_) ?_ (by omega))
  ·dsimp only
   rw [decide_eq_true (by omega),cond_true]
   show _=Sum.inr (vu v part cz links i (pV v part cz links i),i+1)
   unfold vu
   cases eV v ((i:Nat):Int) != part with
   | true=>rfl
   | false =>
    unfold Nj
    rw [cond_false,cond_false]
    cases (v.now.af.getD i default).kind == 0 with
    | true=>rfl
    | false =>
     cases (v.now.af.getD i default).kind == 1 with
     | true=>rfl
     | false =>
      cases (v.now.af.getD i default).kind == 2 with
      | true=>cases ((decide (((i:Nat):Int)≤cz))&&((dP .i64 ((v.now.af.getD i default).flags) 2) == 0))&&bD links ((i:Nat):Int) <;> rfl
      | false=>cases bD (pV v part cz links i) ((v.now.af.getD i default).for_) <;> rfl
  ·dsimp only
   rw [decide_eq_false (by omega),cond_false]
theorem contains_iff (l:List Int) (x:Int):bD l x=true↔x∈l:=by
 refine Iff.trans (zd l x) ?_
 constructor
 ·rintro ⟨q,hq,e⟩
  rw [← (beq_iff_eq.1 e:l.getD q default=x)]
  exact tI hq _
 ·intro h
  obtain ⟨i,hi,rfl⟩:=List.getElem_of_mem h
  exact ⟨i,hi,by simp [List.getD,hi]⟩
theorem rR {v:View} {part cz:Int} {links:List Int}:∀ {n:Nat} {y:Int},y∈pV v part cz links n→0≤y∧y < n∧eV v y=part∧Nj v cz links (pV v part cz links y.toNat) y.toNat=true∧∀ z,z∈pV v part cz links y.toNat→z∈pV v part cz links n
 | 0,y,h=>by cases h
 | n+1,y,h=>by
  have up:∀ z,z∈pV v part cz links n→z∈pV v part cz links (n+1):=fun z hz=>by
   show z∈vu v part cz links n (pV v part cz links n)
   unfold vu
   cases eV v ((n:Nat):Int) != part with
   | true=>exact hz
   | false =>
    cases Nj v cz links (pV v part cz links n) n with
    | true=>exact List.mem_append_left _ hz
    | false=>exact hz
  have old:y∈pV v part cz links n→0≤y∧y < ((n+1:Nat):Int)∧eV v y=part∧Nj v cz links (pV v part cz links y.toNat) y.toNat=true∧∀ z,z∈pV v part cz links y.toNat→z∈pV v part cz links (n+1):=fun hy=>by
   have:=rR hy
   exact ⟨this.1,by omega,this.2.2.1,this.2.2.2.1,fun z hz=>up z (this.2.2.2.2 z hz)⟩
  change y∈vu v part cz links n (pV v part cz links n) at h
  unfold vu at h
  cases hp:eV v ((n:Nat):Int) != part with
  | true=>rw [hp,cond_true] at h; exact old h
  | false =>
   rw [hp,cond_false] at h
   cases hi:Nj v cz links (pV v part cz links n) n with
   | false=>rw [hi,cond_false] at h; exact old h
   | true =>
    rw [hi,cond_true,List.mem_append,List.mem_singleton] at h
    rcases h with h | rfl
    ·exact old h
    ·exact ⟨by omega,by omega,by simpa using hp,by simpa using hi,fun z hz=>up z (by simpa using hz)⟩
theorem Fj (v:View) (part cz:Int) (links:List Int):∀ n,(pV v part cz links n).Pairwise (· < ·)
 | 0=>List.Pairwise.nil
 | n+1=>by
  have ih:=Fj v part cz links n
  show (vu v part cz links n (pV v part cz links n)).Pairwise (· < ·)
  unfold vu
  cases eV v ((n:Nat):Int) != part with
  | true=>exact ih
  | false =>
   cases Nj v cz links (pV v part cz links n) n with
   | false=>exact ih
   | true =>
    refine List.pairwise_append.2 ⟨ih,by simp,fun a ha b hb=>?_⟩
    simp only [List.mem_singleton] at hb
    subst hb
    exact (rR ha).2.1
theorem KQ (v:View) (part cz:Int) (links:List Int):(aZ v part cz links).Pairwise (· < ·):=by
 rw [Af]
 cases (cz != (-1))&&(!(bD links cz)) with
 | true=>exact List.Pairwise.nil
 | false=>exact Fj ..
theorem BN {v:View} {part cz:Int} {links:List Int} {y:Int} (h:y∈aZ v part cz links):(cz = -1∨cz∈links)∧y∈pV v part cz links v.now.af.length:=by
 rw [Af] at h
 cases hc:(cz != (-1))&&(!(bD links cz)) with
 | true=>rw [hc] at h; cases h
 | false =>
  rw [hc,cond_false] at h
  refine ⟨?_,h⟩
  by_cases e:cz = -1
  ·exact .inl e
  ·refine .inr ((contains_iff links cz).1 ?_)
   have:(cz != (-1))=true:=by simpa using e
   rw [this,Bool.true_and,Bool.not_eq_eq_eq_not,Bool.not_false] at hc
   exact hc
def Ds (now:al) (i:Int):Bool:=now.aA.any fun a=>a.kind == 7&&a.at_ == i
def Fk (now:al):List Int:=((List.range now.af.length).filter fun i=>((now.af.getD i default).kind == 2)&&!(Ds now ((i:Nat):Int))).map fun i=>(now.af.getD i default).part
theorem wZ {α:Type} (k k':Int) (v:α):∀ (m:List (Int × α)),pk (sH m k v) k'=if k'=k then some v else pk m k'
 | []=>by
  simp only [sH,pk]
  by_cases e:k'=k
  ·subst e; simp
  ·have:(k' == k)=false:=by simpa using e
   rw [this,if_neg e]; rfl
 | p :: r=>by
  have ih:=wZ k k' v r
  simp only [sH]
  cases h:k == p.1 with
  | true =>
   have h:=beq_iff_eq.1 h
   simp only [cond_true,pk]
   by_cases e:k'=k
   ·subst e; rw [← h]; simp
   ·have:(k' == p.1)=false:=by rw [← h]; simpa using e
    rw [this,if_neg e]; rfl
  | false =>
   simp only [cond_false,pk,ih]
   by_cases e:k'=k
   ·subst e; rw [h]; simp
   ·rw [if_neg e,if_neg e]
theorem U3 (aA:List bh) (p:bh→Bool) (k:Int) (m:List (Int × Bool)):Cu (aA.foldl (fun m a=>bif p a then sH m a.at_ true else m) m) k false=(aA.any (fun a=>p a&&a.at_ == k)||Cu m k false):=by
 induction aA generalizing m with
 | nil=>rfl
 | cons a r ih =>
  rw [List.foldl_cons,ih,List.any_cons]
  cases hp:p a with
  | false=>simp
  | true =>
   simp only [cond_true,Bool.true_and]
   unfold Cu
   rw [wZ]
   by_cases e:k=a.at_
   ·subst e; simp
   ·have:(a.at_ == k)=false:=by simpa using fun h:a.at_=k=>e h.symm
    rw [if_neg e,this,Bool.false_or]
theorem Ag (f:al) (day:Int):aB f day=⟨f,ai f day,day,bif (((Lib.compact (iG (Fk (ai f day)))).length:Nat):Int) == 0 then [0] else Lib.compact (iG (Fk (ai f day)))⟩:=by
 unfold aB oU
 dsimp +instances only [Sk.dh,Sk.gd,Sk.iY,Sk.eQ,Sk.iE,Sk.lT,Sk.Mr,Sk.cO,gm.xP,kk,kp,bg.pn,bg.Pn,Fy.xP,yL.xP,ch,qU,mC]
 generalize ai f day=now
 rw [og now.aA (fun s i=>(i,s)) (fun x (s:List (Int × Bool))=>Sum.inr (bif x.kind == 7 then sH s x.at_ true else s)) (fun s=>Sum.inr s) (fun s i hi=>?_) (fun s=>?_) (by omega) []]
 ·rw [j0 (fun (x:bh) s=>bif x.kind == 7 then sH s x.at_ true else s)]
  simp only [tl]
  have hg:∀ k,Cu (now.aA.foldl (fun m a=>bif a.kind == 7 then sH m a.at_ true else m) []) k false=Ds now k:=fun k=>by
   rw [U3 now.aA (fun a=>a.kind == 7) k []]
   show (_||false)=_
   rw [Bool.or_false]; rfl
  generalize now.aA.foldl (fun m a=>bif a.kind == 7 then sH m a.at_ true else m) []=m at hg
  refine Eq.trans (congrArg (fun q=>gH q _) (Ae now.af.length (fun n=>((List.range n).filter fun i=>((now.af.getD i default).kind == 2)&&!(Ds now ((i:Nat):Int))).map fun i=>(now.af.getD i default).part) (fun s i=>(i,s)) (fun s=>Sum.inr s) (fun i hi=>?_) ?_ (by omega))) ?_
  rotate_left
  rotate_left
  ·simp only [tl]
   show (bif (((Lib.compact (iG (Fk now))).length:Nat):Int) == 0 then View.mk f now day [0] else View.mk f now day (Lib.compact (iG (Fk now))))=View.mk f now day (bif (((Lib.compact (iG (Fk now))).length:Nat):Int) == 0 then [0] else Lib.compact (iG (Fk now)))
   cases (((Lib.compact (iG (Fk now))).length:Nat):Int) == 0 <;> rfl
  ·dsimp only
   rw [decide_eq_true (by omega),cond_true,hg,List.range_succ,List.filter_append,List.map_append]
   cases hc:((now.af.getD i default).kind == 2)&&!(Ds now ((i:Nat):Int)) with
   | true=>rw [List.filter_cons_of_pos (by simpa using hc)]; rfl
   | false=>rw [List.filter_cons_of_neg (by simpa using hc)]; simp
  ·dsimp only
   rw [decide_eq_false (by omega),cond_false]
 ·rw [decide_eq_true (by omega),cond_true]
  cases (now.aA.getD i default).kind == 7 <;> rfl
 ·rw [decide_eq_false (by omega),cond_false]
theorem Qj (f:al) (day:Int):(aB f day).lead.Pairwise (· < ·):=by
 rw [Ag]
 dsimp only
 cases (((Lib.compact (iG (Fk (ai f day)))).length:Nat):Int) == 0 with
 | true=>simp
 | false=>exact (Ng _).1
def il (c_:eu) (o:kd) (sign:Int) (links:List Int) (kK:List cC):Sk (Int × Int) :=
 .r 1 ((sj c_.view sign).c) fun x1 =>
 .r 2 (.aq (.p (bG sign kK.length)) ((qI o.state ((kK.getD sign.toNat default).binds)).c)) fun x2 =>
 .r 4 (.p (bG x1 c_.view.now.af.length)) fun _ =>
 .br (((c_.view.now.af.getD x1.toNat default).kind) == 1)
 (.br (!((c_.due != (-1))&&(decide (c_.view.day≥c_.due))))
 (.fin (0,0))
 (.fin (x2,0)))
 (.r 8 ((jH c_.view.now.aA).c) fun x3 =>
 .r 9 (.wh ((!((c_.due != (-1))&&(decide (c_.view.day≥c_.due))))&&(!x3)) false (.p (bG x1 kK.length))) fun _ =>
 .br (((!((c_.due != (-1))&&(decide (c_.view.day≥c_.due))))&&(!x3))||(!((kK.getD x1.toNat default).eI)))
 (.fin (0,0))
 (.bt
 (.loop (default:Sum (Int × Int) (Int × Int)) (fun i5=>i5.2.2≤links.length) (fun i5=>links.length - i5.2.2) ((0,1,0):Int × Int × Nat)
 (fun (i5:Int × Int × Nat)=>⟨[(16,iv i5.1),(17,iv i5.2.1),(76,iv (i5.2.2:Int))],[]⟩) fun i5 =>
 .lt 3 0 i5.2.2 links.length
 (.r 14 (.p (bG (i5.2.2:Int) links.length)) fun _ =>
 .bind false (fun _=>True)
 (.br (decide ((links.getD i5.2.2 default)≤o.sign))
 (.fin (.inr (au (i5.2.1+1))))
 (.fin (.inr i5.2.1)))
 (fun (b6:Int)=>⟨[(17,iv b6)],[]⟩) fun b6 =>
 .br ((decide ((links.getD i5.2.2 default)≤o.sign))&&(decide ((links.getD i5.2.2 default)≥x1)))
 (.nx 19 76 i5.2.2 (au (i5.1+1),b6,i5.2.2+1))
 (.nx 19 76 i5.2.2 (i5.1,b6,i5.2.2+1)))
 (.fin (.inl (.inr (i5.1,i5.2.1)))))
 (fun (b4:Int × Int)=>⟨[(16,iv b4.1),(17,iv b4.2)],[]⟩) fun b4 =>
 .r 20 ((aJ links x1).c) fun x7 =>
 .bind false (fun _=>True)
 (.br (!x7)
 (.fin (.inr b4.2))
 (.fin (.inr b4.1)))
 (fun (b8:Int)=>⟨[(16,iv b8)],[]⟩) fun b8 =>
 .r 22 (.dep ((qL c_.r c_.forum c_.view.all x1 c_.view.day).c) fun x9=>(qI x2 x9.all).c) fun UK =>
 .fin (UK.2,b8)))
def aK c_ o sign links kK:=(il c_ o sign links kK).val
theorem BO (c_:eu) (o:kd) (sign:Int) (links:List Int) (kK:List cC) (he:kK.length=c_.view.now.af.length) (hs:0≤sign∧sign < (c_.view.now.af.length:Int)) (hc:c_.view.now=ai c_.view.all c_.view.day) (hF:cm c_.r c_.view.all) (U4:c_.view.jC) (Q8:c_.view.all.Small) (Qf:c_.r.cG) (Nf:c_.r.Small):(il c_ o sign links kK).bz (fun _=>True):=by
 unfold il
 try simp only [qL,qI,sj,jH,aJ]
 exact oh
def pW c_ o sign links kK:=kk tok mixed Tryz.func28 [av c_.cells,av o.cells,iv sign,lv bU links,lv cC.cells kK] (fun x=>.fL [iv x.1,iv x.2]) true (il c_ o sign links kK) (aK c_ o sign links kK) (fun (h:(kK.length=c_.view.now.af.length)∧(0≤sign∧sign < (c_.view.now.af.length:Int))∧(c_.view.now=ai c_.view.all c_.view.day)∧(cm c_.r c_.view.all)∧(c_.view.jC)∧(c_.view.all.Small)∧(c_.r.cG)∧(c_.r.Small))=>BO c_ o sign links kK h.1 h.2.1 h.2.2.1 h.2.2.2.1 h.2.2.2.2.1 h.2.2.2.2.2.1 h.2.2.2.2.2.2.1 h.2.2.2.2.2.2.2)
structure AM where
 sum:Int
 kT:Int
 xW:Int
 exchange:Int
 Su:Int
 rest:Int
 az:Int
 deriving Inhabited
def AM.cells (c:AM):List D:=[dI c.sum,dI c.kT,dI c.xW,dI c.exchange,dI c.Su,dI c.rest,dI c.az]
def ke (r:ah) (forum:Int) (f:al) (sign:Int) (day:Int):Sk (cC × Bool) :=
 .r 1 ((l4 r forum f day).c) fun x1 =>
 .br ((decide (sign < 0))||(decide (sign≥((x1.f.af.length:Nat):Int))))
 (.fin (({ sign:=0,kind:=0,fA:=0,binds:=0,text:=0,sum:=0,eI:=false }:cC),false))
 (.r 4 ((eB x1 sign).c) fun x2 =>
 .fin (x2,true))
def dr r forum f sign day:=(ke r forum f sign day).val
theorem Gd (r:ah) (forum:Int) (f:al) (sign:Int) (day:Int) (hP:f.pv∧f.Small):(ke r forum f sign day).cZ (fun (x:cC × Bool)=>0≤x.1.sum∧x.1.sum≤1099511627776):=by
 refine Sk.bp _ ?_
 unfold ke
 simp only [Sk.cU,Sk.aO,reduceCtorEq,ON,kk,kp,l4,eB,maxLen]
 intro x _ hx
 refine ⟨fun _=>⟨by decide,by decide⟩,fun hc y _ hy=>hy ⟨by rw [hx.1]; exact TF hP.1 day,by rw [hx.1]; exact zc hP.2 day,?_⟩⟩
 simp only [LN] at hc
 omega
theorem qM (r:ah) (forum:Int) (f:al) (sign:Int) (day:Int):(fun (x:cC × Bool)=>(f.pv∧f.Small)→(0≤x.1.sum∧x.1.sum≤1099511627776)) (dr r forum f sign day):=fun hP=>Sk.de _ (Gd r forum f sign day hP)
theorem I9 (r:ah) (forum:Int) (f:al) (sign:Int) (day:Int) (bM:f.Small) (cu:r.cG) (bN:r.Small):(ke r forum f sign day).bz (fun _=>True):=by
 refine Sk.aX _ ?_
 unfold ke
 simp only [Sk.km,Sk.aO,reduceCtorEq,ON,kk,kp,l4,eB,maxLen]
 refine ⟨⟨bM,cu,bN⟩,fun x _ hx hc=>?_⟩
 have hS:x.f.Small:=by rw [hx.1]; exact zc bM day
 have hB:x.r.cG:=by rw [hx.2]; exact cu
 have hR:x.r.Small:=by rw [hx.2]; exact bN
 simp only [LN] at hc
 exact ⟨by omega,hS,hB,hR⟩
def rk r forum f sign day:=kk tok mixed Tryz.func66 [av r.cells,iv forum,av f.cells,iv sign,iv day] (fun x=>.fL [av x.1.cells,bv x.2]) true (ke r forum f sign day) (dr r forum f sign day) (u3 (I9 r forum f sign day)) (fun (x:cC × Bool)=>(f.pv∧f.Small)→(0≤x.1.sum∧x.1.sum≤1099511627776)) (qM r forum f sign day)
def nY (n:Int) (fy:Int):Sk (Bool) :=
 .fin ((decide (n≥0))&&(decide (n≤fy)))
def cQ n fy:=(nY n fy).val
theorem sm (n:Int) (fy:Int):cQ n fy=((decide (n≥0))&&(decide (n≤fy))):=rfl
theorem Ge (n:Int) (fy:Int):(nY n fy).bz (fun _=>True):=by
 unfold nY
 exact pq
def kf n fy:=kk tok mixed Tryz.func161 [iv n,iv fy] (fun x=>bv x) true (nY n fy) (cQ n fy) (u0 (Ge n fy))
def T8:List Nat:=[0,1,2,2,3,3,3,3,4,4,4,4,4,4,4,4]++List.replicate 16 5++List.replicate 32 6++List.replicate 64 7++List.replicate 128 8
theorem acC:∀ k,k < 256→0 < k→1≤T8.getD k 0∧T8.getD k 0≤8∧2 ^ (T8.getD k 0 - 1)≤k∧k < 2 ^ (T8.getD k 0):=by decide +kernel
theorem aaW {x d:Int} {n t:Nat} (hd:d=2 ^ n) (h1:(2:Int) ^ (t - 1)≤x / d) (h2:x / d < 2 ^ t) (ht:1≤t):(2:Int) ^ (n+t - 1)≤x∧x < 2 ^ (n+t):=by
 subst hd
 have hp:(0:Int) < 2 ^ n:=Int.pow_pos (by omega)
 have e:=Int.mul_ediv_add_emod x (2 ^ n)
 have r0:=Int.emod_nonneg x (Int.ne_of_gt hp)
 have r1:=Int.emod_lt_of_pos x hp
 rw [show n+t - 1=n+(t - 1) by omega,Int.pow_add,Int.pow_add]
 constructor
 ·have:=Int.mul_le_mul_of_nonneg_left h1 (Int.le_of_lt hp)
  omega
 ·have:(2:Int) ^ n * (x / 2 ^ n+1)≤2 ^ n * 2 ^ t:=Int.mul_le_mul_of_nonneg_left (by omega) (Int.le_of_lt hp)
  rw [Int.mul_add] at this
  omega
theorem TL (a:Int):dz .u64 a 32=a / 4294967296:=DZ .u64 (b:=32) (by decide)
theorem ZZ (a:Int):dz .u64 a 16=a / 65536:=DZ .u64 (b:=16) (by decide)
theorem acD (a:Int):dz .u64 a 8=a / 256:=DZ .u64 (b:=8) (by decide)
theorem Xs {x:Int} (h:0 < x) (h2:x < 256):1≤T8.getD x.toNat 0∧T8.getD x.toNat 0≤8∧(2:Int) ^ (T8.getD x.toNat 0 - 1)≤x∧x < 2 ^ (T8.getD x.toNat 0):=by
 obtain ⟨h3,h4,h5,h6⟩:=acC x.toNat (by omega) (by omega)
 refine ⟨h3,h4,?_,?_⟩
 ·have:((2 ^ (T8.getD x.toNat 0 - 1):Nat):Int)≤(x.toNat:Int):=by exact_mod_cast h5
  rw [Int.natCast_pow] at this
  have e:((2:Nat):Int)=2:=rfl
  rw [e] at this
  omega
 ·have:((x.toNat:Nat):Int) < ((2 ^ (T8.getD x.toNat 0):Nat):Int):=by exact_mod_cast h6
  rw [Int.natCast_pow] at this
  have e:((2:Nat):Int)=2:=rfl
  rw [e] at this
  omega
theorem Xt:∀ k,k < 256→((⟨#[0,1,2,2,3,3,3,3,4,4,4,4,4,4,4,4,5,5,5,5,5,5,5,5,5,5,5,5,5,5,5,5,6,6,6,6,6,6,6,6,6,6,6,6,6,6,6,6,6,6,6,6,6,6,6,6,6,6,6,6,6,6,6,6,7,7,7,7,7,7,7,7,7,7,7,7,7,7,7,7,7,7,7,7,7,7,7,7,7,7,7,7,7,7,7,7,7,7,7,7,7,7,7,7,7,7,7,7,7,7,7,7,7,7,7,7,7,7,7,7,7,7,7,7,7,7,7,7,8,8,8,8,8,8,8,8,8,8,8,8,8,8,8,8,8,8,8,8,8,8,8,8,8,8,8,8,8,8,8,8,8,8,8,8,8,8,8,8,8,8,8,8,8,8,8,8,8,8,8,8,8,8,8,8,8,8,8,8,8,8,8,8,8,8,8,8,8,8,8,8,8,8,8,8,8,8,8,8,8,8,8,8,8,8,8,8,8,8,8,8,8,8,8,8,8,8,8,8,8,8,8,8,8,8,8,8,8,8,8,8,8,8,8,8,8,8,8,8,8,8,8,8,8,8,8,8]⟩:ByteArray).data.toList.getD k 0).toNat=T8.getD k 0:=by decide +kernel
theorem uY {x d:Int} {n t:Nat} (hd:d=2 ^ n) (h1:(2:Int) ^ (t - 1)≤x / d) (h2:x / d < 2 ^ t) (ht:1≤t) (ht8:t≤8) (hn:n≤56) {r:Int} (hr:r=(n+t:Nat)):1≤r∧r≤64∧2 ^ (r.toNat - 1)≤x∧x < 2 ^ r.toNat:=by
 subst hr
 have:=aaW hd h1 h2 ht
 rw [Int.toNat_natCast]
 exact ⟨by omega,by omega,this.1,this.2⟩
def kZ (x_:Int):Sk (Int) :=
 .bind false (fun b1=>(0 < x_→0 < b1.1)∧0≤b1.1∧b1.1 < 4294967296∧((b1.2=0∧b1.1=x_)∨(b1.2=32∧b1.1=x_ / 4294967296)))
 (.br (decide (x_≥4294967296))
 (.r 2 (.p (0≤(32:Int))) fun _ =>
 .fin (.inr (dz .u64 x_ 32,32)))
 (.fin (.inr (x_,0))))
 (fun (b1:Int × Int)=>⟨[(0,.d (.v (.int .u64 b1.1))),(2,iv b1.2)],[]⟩) fun b1 =>
 .bind false (fun b2=>(0 < x_→0 < b2.1)∧0≤b2.1∧b2.1 < 65536∧((b2.2=0∧b2.1=x_)∨(b2.2=16∧b2.1=x_ / 65536)∨(b2.2=32∧b2.1=x_ / 4294967296)∨(b2.2=48∧b2.1=x_ / 281474976710656)))
 (.br (decide (b1.1≥65536))
 (.r 5 (.p (0≤(16:Int))) fun _ =>
 .fin (.inr (dz .u64 b1.1 16,au (b1.2+16))))
 (.fin (.inr (b1.1,b1.2))))
 (fun (b2:Int × Int)=>⟨[(0,.d (.v (.int .u64 b2.1))),(2,iv b2.2)],[]⟩) fun b2 =>
 .br (decide (b2.1≥256))
 (.r 8 (.p (0≤(8:Int))) fun _ =>
 .r 10 (.p (0≤(IntKind.u8.wrap (dz .u64 b2.1 8))∧(IntKind.u8.wrap (dz .u64 b2.1 8)) < (((⟨#[0,1,2,2,3,3,3,3,4,4,4,4,4,4,4,4,5,5,5,5,5,5,5,5,5,5,5,5,5,5,5,5,6,6,6,6,6,6,6,6,6,6,6,6,6,6,6,6,6,6,6,6,6,6,6,6,6,6,6,6,6,6,6,6,7,7,7,7,7,7,7,7,7,7,7,7,7,7,7,7,7,7,7,7,7,7,7,7,7,7,7,7,7,7,7,7,7,7,7,7,7,7,7,7,7,7,7,7,7,7,7,7,7,7,7,7,7,7,7,7,7,7,7,7,7,7,7,7,8,8,8,8,8,8,8,8,8,8,8,8,8,8,8,8,8,8,8,8,8,8,8,8,8,8,8,8,8,8,8,8,8,8,8,8,8,8,8,8,8,8,8,8,8,8,8,8,8,8,8,8,8,8,8,8,8,8,8,8,8,8,8,8,8,8,8,8,8,8,8,8,8,8,8,8,8,8,8,8,8,8,8,8,8,8,8,8,8,8,8,8,8,8,8,8,8,8,8,8,8,8,8,8,8,8,8,8,8,8,8,8,8,8,8,8,8,8,8,8,8,8,8,8,8,8,8,8]⟩:ByteArray).size:Nat):Int))) fun _ =>
 .fin (au ((au (b2.2+8))+(au ((((⟨#[0,1,2,2,3,3,3,3,4,4,4,4,4,4,4,4,5,5,5,5,5,5,5,5,5,5,5,5,5,5,5,5,6,6,6,6,6,6,6,6,6,6,6,6,6,6,6,6,6,6,6,6,6,6,6,6,6,6,6,6,6,6,6,6,7,7,7,7,7,7,7,7,7,7,7,7,7,7,7,7,7,7,7,7,7,7,7,7,7,7,7,7,7,7,7,7,7,7,7,7,7,7,7,7,7,7,7,7,7,7,7,7,7,7,7,7,7,7,7,7,7,7,7,7,7,7,7,7,8,8,8,8,8,8,8,8,8,8,8,8,8,8,8,8,8,8,8,8,8,8,8,8,8,8,8,8,8,8,8,8,8,8,8,8,8,8,8,8,8,8,8,8,8,8,8,8,8,8,8,8,8,8,8,8,8,8,8,8,8,8,8,8,8,8,8,8,8,8,8,8,8,8,8,8,8,8,8,8,8,8,8,8,8,8,8,8,8,8,8,8,8,8,8,8,8,8,8,8,8,8,8,8,8,8,8,8,8,8,8,8,8,8,8,8,8,8,8,8,8,8,8,8,8,8,8,8]⟩:ByteArray).data.toList.getD ((IntKind.u8.wrap (dz .u64 b2.1 8)).toNat) 0).toNat:Int))))))
 (.r 10 (.p (0≤(IntKind.u8.wrap (b2.1))∧(IntKind.u8.wrap (b2.1)) < (((⟨#[0,1,2,2,3,3,3,3,4,4,4,4,4,4,4,4,5,5,5,5,5,5,5,5,5,5,5,5,5,5,5,5,6,6,6,6,6,6,6,6,6,6,6,6,6,6,6,6,6,6,6,6,6,6,6,6,6,6,6,6,6,6,6,6,7,7,7,7,7,7,7,7,7,7,7,7,7,7,7,7,7,7,7,7,7,7,7,7,7,7,7,7,7,7,7,7,7,7,7,7,7,7,7,7,7,7,7,7,7,7,7,7,7,7,7,7,7,7,7,7,7,7,7,7,7,7,7,7,8,8,8,8,8,8,8,8,8,8,8,8,8,8,8,8,8,8,8,8,8,8,8,8,8,8,8,8,8,8,8,8,8,8,8,8,8,8,8,8,8,8,8,8,8,8,8,8,8,8,8,8,8,8,8,8,8,8,8,8,8,8,8,8,8,8,8,8,8,8,8,8,8,8,8,8,8,8,8,8,8,8,8,8,8,8,8,8,8,8,8,8,8,8,8,8,8,8,8,8,8,8,8,8,8,8,8,8,8,8,8,8,8,8,8,8,8,8,8,8,8,8,8,8,8,8,8,8]⟩:ByteArray).size:Nat):Int))) fun _ =>
 .fin (au (b2.2+(au ((((⟨#[0,1,2,2,3,3,3,3,4,4,4,4,4,4,4,4,5,5,5,5,5,5,5,5,5,5,5,5,5,5,5,5,6,6,6,6,6,6,6,6,6,6,6,6,6,6,6,6,6,6,6,6,6,6,6,6,6,6,6,6,6,6,6,6,7,7,7,7,7,7,7,7,7,7,7,7,7,7,7,7,7,7,7,7,7,7,7,7,7,7,7,7,7,7,7,7,7,7,7,7,7,7,7,7,7,7,7,7,7,7,7,7,7,7,7,7,7,7,7,7,7,7,7,7,7,7,7,7,8,8,8,8,8,8,8,8,8,8,8,8,8,8,8,8,8,8,8,8,8,8,8,8,8,8,8,8,8,8,8,8,8,8,8,8,8,8,8,8,8,8,8,8,8,8,8,8,8,8,8,8,8,8,8,8,8,8,8,8,8,8,8,8,8,8,8,8,8,8,8,8,8,8,8,8,8,8,8,8,8,8,8,8,8,8,8,8,8,8,8,8,8,8,8,8,8,8,8,8,8,8,8,8,8,8,8,8,8,8,8,8,8,8,8,8,8,8,8,8,8,8,8,8,8,8,8,8]⟩:ByteArray).data.toList.getD ((IntKind.u8.wrap (b2.1)).toNat) 0).toNat:Int))))))
def bits_Len64 x_:=(kZ x_).val
theorem Ja (x_:Int) (hP:0 < x_∧x_ < 18446744073709551616):(kZ x_).cZ (fun (x:Int)=>1≤x∧x≤64∧2 ^ (x.toNat - 1)≤x_∧x_ < 2 ^ x.toNat):=by
 refine Sk.bp _ ?_
 unfold kZ
 simp only [Sk.cU,Sk.aO,reduceCtorEq,ON,kk,kp,maxLen]
 simp only [TL,ZZ,acD,aG (n:=(32:Int)) (by decide) (by decide)] at *
 refine ⟨⟨fun hc _=>?_,fun hc=>?_⟩,fun b _ hb=>⟨⟨fun hc _=>?_,fun hc=>?_⟩,fun d _ hd=>⟨fun hc _ _=>?_,fun hc _=>?_⟩⟩⟩
 all_goals simp only [LN] at hc
 ·(try simp only [true_or,or_true,and_true,true_and]); omega
 ·(try simp only [true_or,or_true,and_true,true_and]); omega
 ·have e:au (b.2+16)=b.2+16:=aG (by omega) (by omega)
  rw [e]
  omega
 ·omega
 ·rw [Ln,Int.emod_eq_of_lt (by omega) (by omega),Xt _ (by omega)]
  have ht:=Xs (x:=d.1 / 256) (by omega) (by omega)
  rw [aG (n:=d.2+8) (by omega) (by omega),aG (n:=((T8.getD (d.1 / 256).toNat 0:Nat):Int)) (by omega) (by omega),aG (by omega) (by omega)]
  rcases hd.2.2.2 with ⟨h1,h2⟩ | ⟨h1,h2⟩ | ⟨h1,h2⟩ | ⟨h1,h2⟩
  ·exact uY (n:=8) (d:=256) (t:=T8.getD (d.1 / 256).toNat 0) (by decide) (by rw [← h2]; exact ht.2.2.1) (by rw [← h2]; exact ht.2.2.2) ht.1 ht.2.1 (by omega) (by omega)
  ·exact uY (n:=24) (d:=16777216) (t:=T8.getD (d.1 / 256).toNat 0) (by decide) (by rw [show x_ / 16777216=d.1 / 256 by omega]; exact ht.2.2.1) (by rw [show x_ / 16777216=d.1 / 256 by omega]; exact ht.2.2.2) ht.1 ht.2.1 (by omega) (by omega)
  ·exact uY (n:=40) (d:=1099511627776) (t:=T8.getD (d.1 / 256).toNat 0) (by decide) (by rw [show x_ / 1099511627776=d.1 / 256 by omega]; exact ht.2.2.1) (by rw [show x_ / 1099511627776=d.1 / 256 by omega]; exact ht.2.2.2) ht.1 ht.2.1 (by omega) (by omega)
  ·exact uY (n:=56) (d:=72057594037927936) (t:=T8.getD (d.1 / 256).toNat 0) (by decide) (by rw [show x_ / 72057594037927936=d.1 / 256 by omega]; exact ht.2.2.1) (by rw [show x_ / 72057594037927936=d.1 / 256 by omega]; exact ht.2.2.2) ht.1 ht.2.1 (by omega) (by omega)
 ·rw [Ln,Int.emod_eq_of_lt (by omega) (by omega),Xt _ (by omega)]
  have ht:=Xs (x:=d.1) (by omega) (by omega)
  rw [aG (n:=((T8.getD d.1.toNat 0:Nat):Int)) (by omega) (by omega),aG (by omega) (by omega)]
  rcases hd.2.2.2 with ⟨h1,h2⟩ | ⟨h1,h2⟩ | ⟨h1,h2⟩ | ⟨h1,h2⟩
  ·exact uY (n:=0) (d:=1) (t:=T8.getD d.1.toNat 0) (by decide) (by rw [show x_ / 1=d.1 by omega]; exact ht.2.2.1) (by rw [show x_ / 1=d.1 by omega]; exact ht.2.2.2) ht.1 ht.2.1 (by omega) (by omega)
  ·exact uY (n:=16) (d:=65536) (t:=T8.getD d.1.toNat 0) (by decide) (by rw [← h2]; exact ht.2.2.1) (by rw [← h2]; exact ht.2.2.2) ht.1 ht.2.1 (by omega) (by omega)
  ·exact uY (n:=32) (d:=4294967296) (t:=T8.getD d.1.toNat 0) (by decide) (by rw [← h2]; exact ht.2.2.1) (by rw [← h2]; exact ht.2.2.2) ht.1 ht.2.1 (by omega) (by omega)
  ·exact uY (n:=48) (d:=281474976710656) (t:=T8.getD d.1.toNat 0) (by decide) (by rw [← h2]; exact ht.2.2.1) (by rw [← h2]; exact ht.2.2.2) ht.1 ht.2.1 (by omega) (by omega)
theorem Gf (x_:Int):(fun (x:Int)=>(0 < x_∧x_ < 18446744073709551616)→(1≤x∧x≤64∧2 ^ (x.toNat - 1)≤x_∧x_ < 2 ^ x.toNat)) (bits_Len64 x_):=fun hP=>Sk.de _ (Ja x_ hP)
theorem KR (x_:Int) (hx:0≤x_∧x_ < 18446744073709551616):(kZ x_).bz (fun _=>True):=by
 refine Sk.aX _ ?_
 unfold kZ
 simp only [Sk.km,Sk.aO,reduceCtorEq,ON,kk,kp,maxLen]
 simp only [TL,ZZ,acD,aG (n:=(32:Int)) (by decide) (by decide)] at *
 refine ⟨⟨fun hc=>⟨by decide,fun _=>?_⟩,fun hc=>?_⟩,fun b _ hb=>⟨⟨fun hc=>⟨by decide,fun _=>?_⟩,fun hc=>?_⟩,fun d _ hd=>⟨fun hc=>⟨by decide,fun _=>⟨?_,?_⟩⟩,fun hc=>⟨?_,?_⟩⟩⟩⟩
 all_goals simp only [LN] at hc
 ·(try simp only [true_or,or_true,and_true,true_and]); omega
 ·(try simp only [true_or,or_true,and_true,true_and]); omega
 ·have e:au (b.2+16)=b.2+16:=aG (by omega) (by omega)
  rw [e]
  omega
 ·omega
 ·rw [Ln]; omega
 ·rw [Ln,Int.emod_eq_of_lt (by omega) (by omega)]; exact (show _ < ((256:Nat):Int) by omega)
 ·rw [Ln]; omega
 ·rw [Ln,Int.emod_eq_of_lt (by omega) (by omega)]; exact (show _ < ((256:Nat):Int) by omega)
def xC x_:=kk tok mixed Tryz.func96 [.d (.v (.int .u64 x_))] (fun x=>iv x) true (kZ x_) (bits_Len64 x_) (KR x_) (fun (x:Int)=>(0 < x_∧x_ < 18446744073709551616)→(1≤x∧x≤64∧2 ^ (x.toNat - 1)≤x_∧x_ < 2 ^ x.toNat)) (Gf x_)
def dJ (x_:Int):Sk (Int) :=
 .r 1 ((xC x_).c) fun x1 =>
 .fin (au ((64:Int) - x1))
def bits_LeadingZeros64 x_:=(dJ x_).val
theorem wB (x_:Int) (hP:0 < x_∧x_ < 18446744073709551616):(dJ x_).cZ (fun (x:Int)=>0≤x∧x≤63∧9223372036854775808≤x_ * 2 ^ x.toNat∧x_ * 2 ^ x.toNat < 18446744073709551616):=by
 refine Sk.bp _ ?_
 unfold dJ
 simp only [Sk.cU,Sk.aO,reduceCtorEq,ON,kk,kp,xC,maxLen]
 intro x _ h
 obtain ⟨h1,h2,h3,h4⟩:=h hP
 rw [aG (by omega) (by omega)]
 have e1:x.toNat - 1+(64 - x).toNat=63:=by omega
 have e2:x.toNat+(64 - x).toNat=64:=by omega
 have p:(0:Int) < 2 ^ (64 - x).toNat:=Int.pow_pos (by omega)
 have q1:=Int.mul_le_mul_of_nonneg_right h3 (Int.le_of_lt p)
 have q2:=Int.mul_lt_mul_of_pos_right h4 p
 rw [← Int.pow_add,e1] at q1
 rw [← Int.pow_add,e2] at q2
 refine ⟨by omega,by omega,?_,?_⟩
 ·exact q1
 ·exact q2
theorem vw (x_:Int):(fun (x:Int)=>(0 < x_∧x_ < 18446744073709551616)→(0≤x∧x≤63∧9223372036854775808≤x_ * 2 ^ x.toNat∧x_ * 2 ^ x.toNat < 18446744073709551616)) (bits_LeadingZeros64 x_):=fun hP=>Sk.de _ (wB x_ hP)
theorem xD (x_:Int) (hx:0≤x_∧x_ < 18446744073709551616):(dJ x_).bz (fun _=>True):=by
 unfold dJ
 try simp only [xC]
 exact oh
def lh x_:=kk tok mixed Tryz.func205 [.d (.v (.int .u64 x_))] (fun x=>iv x) true (dJ x_) (bits_LeadingZeros64 x_) (xD x_) (fun (x:Int)=>(0 < x_∧x_ < 18446744073709551616)→(0≤x∧x≤63∧9223372036854775808≤x_ * 2 ^ x.toNat∧x_ * 2 ^ x.toNat < 18446744073709551616)) (vw x_)
end
end
end Go.Proofs.YtgmnlkccjlnnbaaGreatDoor
