/- A function by hand. -/
import Derived.Test.YtgmnlkccjlnnbaaGreatDoorLf
import Derived.RangeFuncNested
import Derived.RangeFuncBound
import Derived.RangeFuncBox
import Derived.RangeFuncFrom
import Derived.RangeFuncCalls
import Derived.RangeFuncLeaves
import Derived.Shelf.Abstract
import Derived.OwnWalkIn
import Derived.TacticsInMore
import Derived.LoopNIn
import Derived.LoopIn
import Derived.Test.YtgmnlkccjlnnbaaGreatDoorLd
set_option linter.unusedSimpArgs false
set_option linter.unusedVariables false
set_option maxHeartbeats 1000000
set_option maxRecDepth 100000
namespace Go.Proofs.YtgmnlkccjlnnbaaGreatDoor
noncomputable section
open Go Go.Av Go.RowKit Go.Shelf
section
attribute [local go_sem] Oper.semAt_some
set_option linter.unusedSimpArgs false
set_option linter.unusedVariables false
set_option maxHeartbeats 1000000
set_option maxRecDepth 100000
/-- Ol first open day from one day to Th -/
def ua (c:jB):Nat→Int→Option Int
  | 0,_=>none
  | n+1,d=>bif fX c d then some d else ua c n (d+1)
def Af (c:jB) (day last:Int):Option Int:=ua c (last - day+1).toNat day
def dY (c:jB) (day:Int):Int × Int :=
  bif !(fa day) then (0,3) else match Af c day (min (au (day+400)) 100000) with | some d=>(d,0) | none=>(0,3)
theorem Tryz.ntmps232:Tryz.f232.ntmps=21:=by kernel_rfl
theorem Tryz.ntmps193:Tryz.f193.ntmps=18:=by kernel_rfl

def fb (c:jB):Nat→Int→List Int
  | 0,_=>[]
  | n+1,d=>bif fX c d then d :: fb c n (d+1) else fb c n (d+1)

theorem Sl (c:jB) (d:Int) (v:Value) (w:World) (S:Nat→Prop) (hb:∀ b,S b→b < w.heap.size) (hg:jz w S) (hr:Rd w S (.agg c.cells) v) :
    Calls Tryz.prog 233 #[v,.int .i64 d] w fun e w'=>e=.returned (.bool (fX c d))∧w.grownBy w' none:=by
  refine Calls.mono ((Ey c d).2 w S (fun _=>none) #[v,.int .i64 d] hb hg (fun ν=>⟨rfl,fun i hi=>?_⟩) (fun κ b h=>by simp [Go.Av.look] at h) (fun κ κ' b b' g c c' h=>by simp [Go.Av.look] at h)) ?_
  · match i,hi with
    | 0,_=>exact .d hr
    | 1,_=>exact gz rfl
    | i+2,hi=>simp at hi; omega
  · rintro e w' ⟨u,S',μ',rfl,B⟩
    have hu:u=.bool (fX c d):=nh (B.res fun _=>false)
    subst hu
    exact ⟨rfl,B.kept.os,B.kept.tape,B.kept.output,B.kept.size,fun k hk _=>B.kept.block k hk (fun ⟨κ,b,c,h,_⟩=>by simp [Go.Av.look] at h)⟩

theorem Xo (l bf bt bc n₁ m:Nat) (c:jB) (from_ last:Int) (v0 v1 v2 v3 v4 v5:Value) (S:Nat→Prop) (J Jx:List Int→World→Prop)
    (aeR : -9000000000000000000≤from_) (ZW:last≤9000000000000000000) (hS:∀ b,S b→b < n₁) (hbf:bf < n₁) (hbt:bt < n₁) (Yr:bc < n₁) (hJ:AbidesFrom m J)
    (hY:∀ pre x W,J pre W→pre.length < (fb c (last - from_+1).toNat from_).length→YieldAt Fence.wide 2 Tryz.prog l #[.int .i64 x] W fun e W' =>
      (e=.returned (.bool true)∧J (pre++[x]) W'∧Below n₁ W W')∨(e=.returned (.bool false)∧Jx (pre++[x]) W'))
    (W:World) (hn₁:n₁≤W.heap.size) (hG:jz W S) (hR:Rd W S (.agg c.cells) (.agg #[v0,v1,v2,v3,v4,v5]))
    (hBf:W.cell? ⟨bf,0,none⟩=some (.int .i64 from_)) (hBt:W.cell? ⟨bt,0,none⟩=some (.int .i64 last))
    (hC0:W.cell? ⟨bc,0,none⟩=some v0) (hC1:W.cell? ⟨bc,1,none⟩=some v1) (hC2:W.cell? ⟨bc,2,none⟩=some v2) (hC3:W.cell? ⟨bc,3,none⟩=some v3) (hC4:W.cell? ⟨bc,4,none⟩=some v4) (hC5:W.cell? ⟨bc,5,none⟩=some v5) (h0:J [] W) :
    CallsIn Fence.wide 3 Tryz.prog 232 #[.func (.yield l) #[] #[],.pointer (some ⟨bf,0,none⟩),.pointer (some ⟨bt,0,none⟩),.pointer (some ⟨bc,0,none⟩)] W fun e W'=>(∃ v,e=.returned v) ∧
      ((∃ ys,ys=fb c (last - from_+1).toNat from_∧J ys W')∨(∃ pre,pre <+: fb c (last - from_+1).toNat from_∧Jx pre W')):=by
  refine callsIn_of_wp Tryz.func232 rfl trivial ?_ rfl
  simp only [Tryz.ntmps232,List.size_toArray,List.length_cons,List.length_nil,Nat.reduceAdd,Nat.reduceSub,Array.replicate_succ,Array.replicate_zero,List.push_toArray,List.append_toArray,List.nil_append,List.cons_append]
  gi_wp2
  gi_loopw [5] (fun p wr=>∃ (d:Int) (pre:List Int),p=.int .i64 d∧from_≤d∧fb c (last - from_+1).toNat from_=pre++fb c (last - d+1).toNat d∧J pre wr∧Below n₁ W wr)
    (fun p _=>(last+1 - intOf p).toNat)
  case atStart=>exact ⟨from_,[],rfl,Int.le_refl _,rfl,h0,Below.refl _ _⟩
  case round =>
    obtain ⟨d,pre,rfl,hd,hx,hJs,Bq⟩:=hrel
    have ae4:wr.cell? ⟨bt,0,none⟩=some (.int .i64 last):=(Bq.cell (p:=⟨bt,0,none⟩) hbt).trans hBt
    have ae5:=(Bq.cell (p:=⟨bc,0,none⟩) Yr).trans hC0
    have ae6:=(Bq.cell (p:=⟨bc,1,none⟩) Yr).trans hC1
    have ae7:=(Bq.cell (p:=⟨bc,2,none⟩) Yr).trans hC2
    have ae8:=(Bq.cell (p:=⟨bc,3,none⟩) Yr).trans hC3
    have ae9:=(Bq.cell (p:=⟨bc,4,none⟩) Yr).trans hC4
    have afa:=(Bq.cell (p:=⟨bc,5,none⟩) Yr).trans hC5
    have TP:=Sl c d (.agg #[v0,v1,v2,v3,v4,v5]) wr S (fun b hb=>Nat.lt_of_lt_of_le (hS b hb) (Nat.le_trans hn₁ Bq.size)) (hG.mono (fun _ h=>h) (fun b hb=>Bq.block b (hS b hb))) (hR.mono (fun _ h=>h) (fun b hb=>Bq.block b (hS b hb)))
    have hJ2:∀ W2,wr.grownBy W2 none→J pre W2:=fun W2 hg=>hJ pre wr W2 none hJs hg (fun r e=>by cases e)
    have hB2:∀ W2,wr.grownBy W2 none→Below n₁ W W2:=fun W2 hg=>Bq.trans ⟨hg.os,hg.tape,hg.output,hg.size,fun k hk=>hg.block k (Nat.lt_of_lt_of_le hk (Nat.le_trans hn₁ Bq.size)) (by simp)⟩
    by_cases hle:d≤last
    · have hfu:(last - d+1).toNat=(last - (d+1)+1).toNat+1:=by omega
      cases ho:fX c d with
      | true =>
        rw [ho] at TP
        rw [hfu,fb,ho,cond_true] at hx
        have hlen:pre.length < (fb c (last - from_+1).toNat from_).length:=by rw [hx]; simp
        gi_wp2
        refine ⟨trivial,(callsIn_wide.2 TP).mono ?_⟩
        rintro e W2 ⟨rfl,Od⟩
        obtain ⟨fn,tmps,assign,body,hy,hRR⟩:=hY pre d W2 (hJ2 W2 Od) hlen
        gi_wp2
        refine hRR.mono ?_
        rintro e W3 (⟨rfl,hJ3,hk3⟩ | ⟨rfl,aeq⟩)
        · gi_wp2
          go_roundw
          case rel=>exact ⟨d+1,pre++[d],by simp,by omega,by rw [hx]; simp,hJ3,(hB2 W2 Od).trans hk3⟩
          case measure=>simp [intOf]; omega
        · gi_wp2
          refine bodyPost_ret (results_none rfl _ _ _) rfl ?_
          exact ⟨⟨_,rfl⟩,.inr ⟨pre++[d],⟨fb c (last - (d+1)+1).toNat (d+1),by rw [hx]; simp⟩,aeq⟩⟩
      | false =>
        rw [ho] at TP
        rw [hfu,fb,ho,cond_false] at hx
        gi_wp2
        refine ⟨trivial,(callsIn_wide.2 TP).mono ?_⟩
        rintro e W2 ⟨rfl,Od⟩
        gi_wp2
        refine ⟨fun _ h=>(by cases h),?_⟩
        gi_wp2
        go_roundw
        case rel=>exact ⟨d+1,pre,by simp,by omega,hx,hJ2 W2 Od,hB2 W2 Od⟩
        case measure=>simp [intOf]; omega
    · gi_wp2
      go_end0
      have h0:(last - d+1).toNat=0:=by omega
      rw [h0,fb,List.append_nil]
      exact ⟨⟨_,rfl⟩,.inl hJs⟩

theorem Tryz.ntmps214:Tryz.f214.ntmps=8:=by kernel_rfl
theorem Y5 (v0 v1 v2 v3 v4 v5:Value) (day last:Int) (w:World):CallsIn Fence.wide 3 Tryz.prog 214 #[.agg #[v0,v1,v2,v3,v4,v5],.int .i64 day,.int .i64 last] w fun e w' =>
    e=.returned (.func (.func 232) #[] #[.pointer (some ⟨w.heap.size+1,0,none⟩),.pointer (some ⟨w.heap.size+2,0,none⟩),.pointer (some ⟨w.heap.size,0,none⟩)])∧w'=((w.alloc (.cells #[v0,v1,v2,v3,v4,v5] 159)).alloc (.cells #[.int .i64 day] 3)).alloc (.cells #[.int .i64 last] 3):=by
  refine callsIn_of_wp Tryz.func214 rfl trivial ?_ rfl
  simp only [Tryz.ntmps214,List.size_toArray,List.length_cons,List.length_nil,Nat.reduceAdd,Nat.reduceSub,Array.replicate_succ,Array.replicate_zero,List.push_toArray,List.append_toArray,List.nil_append,List.cons_append]
  gi_wp2
  go_ret
  exact ⟨rfl,rfl⟩

theorem Qe (d:Int) (w:World) (S:Nat→Prop) (hb:∀ b,S b→b < w.heap.size) (hg:jz w S) :
    Calls Tryz.prog 213 #[.int .i64 d] w fun e w'=>e=.returned (.bool (fa d))∧w.grownBy w' none:=by
  refine Calls.mono ((Df d).2 w S (fun _=>none) #[.int .i64 d] hb hg (fun ν=>⟨rfl,fun i hi=>?_⟩) (fun κ b h=>by simp [Go.Av.look] at h) (fun κ κ' b b' g c c' h=>by simp [Go.Av.look] at h)) ?_
  · match i,hi with
    | 0,_=>exact gz rfl
    | i+1,hi=>simp at hi
  · rintro e w' ⟨u,S',μ',rfl,B⟩
    have hu:u=.bool (fa d):=nh (B.res fun _=>false)
    subst hu
    exact ⟨rfl,B.kept.os,B.kept.tape,B.kept.output,B.kept.size,fun k hk _=>B.kept.block k hk (fun ⟨κ,b,c,h,_⟩=>by simp [Go.Av.look] at h)⟩

theorem Ez {w w':World} {S:Nat→Prop} {T:Nat→Prop} {a b:Int} (hS:∀ q,S q→q < w.heap.size) (h:Below w.heap.size w w'):∃ v S' μ',Ending.returned (.tuple #[.int .i64 a,.int .i64 b])=.returned v∧OK w S T (.fL [iv a,iv b]) [] v S' μ' w':=by
  refine ⟨_,S,fun _=>none,rfl,⟨fun ν=>.fL rfl (fun i hi=>?_),fun κ b h=>by simp [Go.Av.look] at h,fun κ κ' b b' g c c' h=>by simp [Go.Av.look] at h,fun κ b g c h=>by simp [Go.Av.look] at h,fun _ h=>h,fun _ h=>.inl h,fun q hq=>Nat.lt_of_lt_of_le (hS q hq) h.size,⟨h.os,h.tape,h.output,h.size,fun k hk _=>h.block k hk⟩⟩⟩
  match i,hi with
  | 0,_=>exact gz rfl
  | 1,_=>exact gz rfl
  | i+2,hi=>simp at hi; omega

theorem results193 (tmps:Array Value) (W:World) (b4 b5:Nat) (x y:Int) (h4:tmps.getD 4 undef=.pointer (some ⟨b4,0,none⟩)) (h5:tmps.getD 5 undef=.pointer (some ⟨b5,0,none⟩)) (hx:W.cell? ⟨b4,0,none⟩=some (.int .i64 x)) (hy:W.cell? ⟨b5,0,none⟩=some (.int .i64 y)) :
    (results Tryz.f193 tmps).run Tryz.prog W=.ok (.tuple #[.int .i64 x,.int .i64 y]) W:=by
  have e:Tryz.f193.results = #[.cell 4 3,.cell 5 67]:=by kernel_rfl
  have u3:Tryz.prog.underlying 3=some (.int .i64):=by kernel_rfl
  have u49:Tryz.prog.underlying 67=some (.int .i64):=by kernel_rfl
  have h4':tmps[4]?.getD undef=.pointer (some ⟨b4,0,none⟩):=by simpa [Array.getD_eq_getD_getElem?] using h4
  have h5':tmps[5]?.getD undef=.pointer (some ⟨b5,0,none⟩):=by simpa [Array.getD_eq_getD_getElem?] using h5
  simp [results,e,h4',h5',go_sem,run_underlying u3,run_underlying u49,hx,hy]

theorem vq (c:jB):∀ (n:Nat) (d:Int),(fb c n d).head? = ua c n d
  | 0,_=>rfl
  | n+1,d=>by
    simp only [fb,ua]
    cases fX c d with
    | true=>rfl
    | false=>exact vq c n (d+1)


theorem Xp (c:jB) (day last t13:Int) (v0 v1 v2 v3 v4 v5:Value) (w W1:World) (S:Nat→Prop) (Q:Exit→Act→World→Prop) (PT : -9000000000000000000≤day) (ZW:last≤9000000000000000000)
    (hb:∀ b,S b→b < w.heap.size) (hg:jz w S) (hR:Rd w S (.agg c.cells) (.agg #[v0,v1,v2,v3,v4,v5])) (X7:Below w.heap.size w W1) (Y6:Boxed W1 (w.heap.size+1) 3 (.int .i64 0)) (Y7:Boxed W1 (w.heap.size+1+1) 67 (.int .i64 0))
    (tm:Value→Value→Array Value) (htm:tm=fun x y=>#[Value.agg #[v0,v1,v2,v3,v4,v5],Value.int IntKind.i64 day,Value.pointer (some { block:=w.heap.size,off:=0 }),undef,Value.pointer (some { block:=w.heap.size+1,off:=0 }),
          Value.pointer (some { block:=w.heap.size+1+1,off:=0 }),y,Value.int IntKind.i64 day,Value.bool true,Value.bool false,Value.agg #[v0,v1,v2,v3,v4,v5],Value.int IntKind.i64 day,Value.int IntKind.i64 day,Value.int IntKind.i64 t13,Value.int IntKind.i64 last,
          Value.func (Fn.func 232) #[] #[Value.pointer (some { block:=W1.heap.size+1,off:=0 }),Value.pointer (some { block:=W1.heap.size+2,off:=0 }),Value.pointer (some { block:=W1.heap.size,off:=0 })],x,undef])
    (acy:fb c (last - day+1).toNat day=[]→∀ (D:Nat) (W:World),W1.heap.size+3≤D→Boxed W (w.heap.size+1) 3 (.int .i64 0)→Boxed W (w.heap.size+1+1) 67 (.int .i64 0)→Below w.heap.size w W→W.heap[D]? = some (.deferred (some []))→Q .normal { tmps:=tm undef undef,defers:=[{ target:=.collected D,args:=#[] }] } W)
    (acz:∀ (x:Int) (D:Nat) (W:World),(fb c (last - day+1).toNat day).head? = some x→W1.heap.size+3≤D→Boxed W (w.heap.size+1) 3 (.int .i64 x)→Boxed W (w.heap.size+1+1) 67 (.int .i64 0)→Below w.heap.size w W→W.heap[D]? = some (.deferred (some []))→Code.ret.wpIn Fence.wide 4 Tryz.prog Q { tmps:=tm undef undef,defers:=[{ target:=.collected D,args:=#[] }] } W) :
    Code.wpIn Fence.wide 4 Tryz.prog
    (Code.rangeFunc (Operand.tmp 15) #[16]
      (Code.region 4
        #[{ dst:=some 6,op:=Op.assign (Operand.tmp 16),type:=3,pos:= "calendar.go:125",after:=#[],
            guard:=none }]
        false)
      (Code.block 1
        ((Code.region 5
              #[{ dst:=some 17,op:=Op.move (Operand.tmp 6),type:=3,pos:= "calendar.go:126",after:=#[],
                  guard:=none },
                { dst:=none,op:=Op.store 3 (Operand.tmp 4) (Operand.tmp 17),type:=0,pos:= "calendar.go:126",
                  after:=#[{ on:=0,ground:=Ground.data },{ on:=0,ground:=Ground.phase }],guard:=none },
                { dst:=none,op:=Op.store 67 (Operand.tmp 5) (Operand.const (Value.int IntKind.i64 0)),type:=0,
                  pos:= "calendar.go:126",
                  after :=
                    #[{ on:=1,ground:=Ground.chain },{ on:=0,ground:=Ground.phase },
                      { on:=1,ground:=Ground.phase }],
                  guard:=none }]
              false).seq
          Code.ret))) Q { tmps:=tm undef undef,defers:=[] }
    (((W1.alloc (Obj.cells #[v0,v1,v2,v3,v4,v5] 159)).alloc (Obj.cells #[Value.int IntKind.i64 day] 3)).alloc
      (Obj.cells #[Value.int IntKind.i64 last] 3)):=by
  obtain ⟨W2,Vx⟩:∃ W2,((W1.alloc (Obj.cells #[v0,v1,v2,v3,v4,v5] 159)).alloc (Obj.cells #[Value.int IntKind.i64 day] 3)).alloc (Obj.cells #[Value.int IntKind.i64 last] 3)=W2:=⟨_,rfl⟩
  rw [Vx]
  have jy:W2.heap.size=W1.heap.size+3:=by rw [← Vx]; simp
  have eC:=Y6.lt
  have acA:=Y7.lt
  have hB2:Below w.heap.size w W2:=by rw [← Vx]; exact ((X7.alloc X7.size _).alloc (by have:=X7.size; simp; omega) _).alloc (by have:=X7.size; simp; omega) _
  have h42:Boxed W2 (w.heap.size+1) 3 (.int .i64 0):=by rw [← Vx]; exact ((Y6.alloc _).alloc _).alloc _
  have h52:Boxed W2 (w.heap.size+1+1) 67 (.int .i64 0):=by rw [← Vx]; exact ((Y7.alloc _).alloc _).alloc _
  have DN:W2.heap[W1.heap.size]? = some (.cells #[v0,v1,v2,v3,v4,v5] 159 (0,0)):=by
    rw [← Vx]
    exact ((Below.heap_alloc _ _ _ (by simp; omega)).trans (Below.heap_alloc _ _ _ (by simp))).trans (World.alloc_heap_new W1 _)
  have hf2:Boxed W2 (W1.heap.size+1) 3 (.int .i64 day):=by
    rw [← Vx]
    have:=(Boxed.new (W1.alloc (Obj.cells #[v0,v1,v2,v3,v4,v5] 159)) 3 (.int .i64 day)).alloc (Obj.cells #[Value.int IntKind.i64 last] 3)
    simpa using this
  have ht2:Boxed W2 (W1.heap.size+2) 3 (.int .i64 last):=by
    rw [← Vx]
    have:=Boxed.new ((W1.alloc (Obj.cells #[v0,v1,v2,v3,v4,v5] 159)).alloc (Obj.cells #[Value.int IntKind.i64 day] 3)) 3 (.int .i64 last)
    simpa using this
  have DL:∀ (x y:List Int→Int→Prop) (s:List Int) (W W':World) (row:Option Nat),(∃ q,x s q∧Boxed W (w.heap.size+1) 3 (.int .i64 q)∧Boxed W (w.heap.size+1+1) 67 (.int .i64 0)∧Below w.heap.size w W)→W.grownBy W' row→(∀ r,row=some r→W2.heap.size≤r∧∃ o:Obj,W.heap[r]? = some o∧o.isCells=false) →
      ∃ q,x s q∧Boxed W' (w.heap.size+1) 3 (.int .i64 q)∧Boxed W' (w.heap.size+1+1) 67 (.int .i64 0)∧Below w.heap.size w W':=by
    rintro x y s W W' row ⟨q,hq,b4,b5,hB⟩ Od hr
    exact ⟨q,hq,b4.kept Od (fun e=>by have:=(hr _ e.symm).1; omega),b5.kept Od (fun e=>by have:=(hr _ e.symm).1; omega),hB.grown Od hB.size (fun k e=>by have:=(hr k e).1; omega)⟩
  refine wpIn_rangeFunc_ownF (F:=Fence.wide) (n:=4) (P:=Tryz.prog) rfl (by decide) (gf:=232) (lb:=#[.pointer (some ⟨W1.heap.size+1,0,none⟩),.pointer (some ⟨W1.heap.size+2,0,none⟩),.pointer (some ⟨W1.heap.size,0,none⟩)]) (by rw [htm]; rfl) trivial (enters_of Tryz.func232 (by kernel_rfl) rfl)
    (encs:=fun x:Int=>#[.int .i64 x]) (Kp:=Below (W1.heap.size+3)) (S:=fun xs=>xs=fb c (last - day+1).toNat day) (Sp:=fun pre=>pre <+: fb c (last - day+1).toNat day) (N:=(fb c (last - day+1).toNat day).length) (w0:=W2) ?seq belowK_t (belowK_b (by omega)) (Below.refl _ _) (fun _=>rfl)
    (fun pre W=>∃ q,(pre=[]∧q=0)∧Boxed W (w.heap.size+1) 3 (.int .i64 q)∧Boxed W (w.heap.size+1+1) 67 (.int .i64 0)∧Below w.heap.size w W)
    (fun cd pre W=>∃ q,(cd=.ret∧pre=[q])∧Boxed W (w.heap.size+1) 3 (.int .i64 q)∧Boxed W (w.heap.size+1+1) 67 (.int .i64 0)∧Below w.heap.size w W)
    (fun s W W' row=>DL (fun pre q=>pre=[]∧q=0) (fun _ _=>True) s W W' row) (fun cd s W W' row=>DL (fun pre q=>cd=.ret∧pre=[q]) (fun _ _=>True) s W W' row) ⟨0,⟨rfl,rfl⟩,h42,h52,hB2⟩
    (fun x=>{ tmps:=tm (.int .i64 x) (.int .i64 x),defers:=[] }) ?assign ?body ?done ?stop
  case seq =>
    intro l J Jx W hW hJ hJx hY h0
    have hBW:Below w.heap.size w W:=hB2.trans (hW.mono (by have:=hB2.size; omega))
    have cc:∀ j,W.cell? ⟨W1.heap.size,j,none⟩ = #[v0,v1,v2,v3,v4,v5][j]?:=fun j=>by rw [gA W _ j _ _ _ ((hW.block _ (by omega)).trans DN)]
    exact Xo l (W1.heap.size+1) (W1.heap.size+2) W1.heap.size (W1.heap.size+3) W.heap.size c day last v0 v1 v2 v3 v4 v5 S J Jx PT ZW (fun b h=>by have:=hb b h; have:=X7.size; omega) (by omega) (by omega) (by omega) hJ hY W (by have:=hW.size; omega)
      (hg.mono (fun _ h=>h) (fun b h=>hBW.block b (hb b h))) (hR.mono (fun _ h=>h) (fun b h=>hBW.block b (hb b h))) ((hW.cell (p:=⟨W1.heap.size+1,0,none⟩) (by simp; omega)).trans hf2.cell) ((hW.cell (p:=⟨W1.heap.size+2,0,none⟩) (by simp; omega)).trans ht2.cell) (cc 0) (cc 1) (cc 2) (cc 3) (cc 4) (cc 5) h0
  case assign =>
    intro l x W K hK
    subst htm
    gi_wp2
    exact hK
  case body =>
    rintro l pre x W ⟨q,⟨rfl,rfl⟩,b4,b5,hB⟩ _
    subst htm
    have c4:=b4.cell
    have f4:=b4.frozen
    have c5:=b5.cell
    have f5:=b5.frozen
    gi_wp2
    have q4:=b4.set (.int .i64 x)
    have q5:=(b5.other (B':=w.heap.size+1) (by omega) (.int .i64 x)).set (.int .i64 0)
    have q4':=q4.other (B':=w.heap.size+1+1) (by omega) (.int .i64 0)
    exact ⟨(KeepsOthers.setCell _ _ _).trans (KeepsOthers.setCell _ _ _),x,⟨rfl,rfl⟩,q4',q5,(hB.setCell (p:=⟨w.heap.size+1,0,none⟩) (by simp) _).setCell (p:=⟨w.heap.size+1+1,0,none⟩) (by simp; omega) _⟩
  case done =>
    rintro D xs W hD hx ⟨q,⟨rfl,rfl⟩,b4,b5,hB⟩ hK
    exact acy hx.symm D W (by omega) b4 b5 hB hK
  case stop =>
    rintro D cd pre W hD ⟨t,hp⟩ ⟨q,⟨rfl,rfl⟩,b4,b5,hB⟩ hK
    exact acz q D W (by rw [← hp]; rfl) (by omega) b4 b5 hB hK

theorem EA (c:jB) (day:Int):gu Tryz.prog 193 [av c.cells,iv day] [] (.fL [iv (dY c day).1,iv (dY c day).2]) []:=by
  refine ⟨by kernel_rfl,fun w S μ vs hb hg hr _ _=>?_⟩
  obtain ⟨v0,v1,v2,v3,v4,v5,rfl,hR⟩:∃ v0 v1 v2 v3 v4 v5:Value,vs = #[.agg #[v0,v1,v2,v3,v4,v5],.int .i64 day]∧Rd w S (.agg c.cells) (.agg #[v0,v1,v2,v3,v4,v5]):=by
    obtain ⟨hl,h⟩:=hr fun _=>false
    have h0:=iE.1 (h 0 (by simp))
    have h1:=ee (h 1 (by simp))
    match vs,hl with
    | ⟨[a,b]⟩,_ =>
      simp only [List.getD_cons_zero,List.getD_cons_succ] at h0 h1
      subst h1
      cases h0 with
      | agg _ xs hx hh =>
        match xs,hx with
        | ⟨[x0,x1,x2,x3,x4,x5]⟩,_=>exact ⟨x0,x1,x2,x3,x4,x5,rfl,.agg _ _ rfl hh⟩
  refine callsIn_wide.1 (callsIn_of_wp_marks (n:=4) Tryz.func193 rfl trivial ?_ rfl)
  simp only [Tryz.ntmps193,List.size_toArray,List.length_cons,List.length_nil,Nat.reduceAdd,Nat.reduceSub,Array.replicate_succ,Array.replicate_zero,List.push_toArray,List.append_toArray,List.nil_append,List.cons_append]
  obtain ⟨W0,hW0⟩:∃ W0,((w.alloc (Obj.cells #[v0,v1,v2,v3,v4,v5] 159)).alloc (Obj.cells #[Value.int IntKind.i64 0] 3)).alloc (Obj.cells #[Value.int IntKind.i64 0] 67)=W0:=⟨_,rfl⟩
  have afb:W0.heap.size=w.heap.size+3:=by rw [← hW0]; simp
  have hB0:Below w.heap.size w W0:=by rw [← hW0]; exact (((Below.refl _ w).alloc (Nat.le_refl _) _).alloc (by simp) _).alloc (by simp; omega) _
  have VN:W0.heap[w.heap.size]? = some (.cells #[v0,v1,v2,v3,v4,v5] 159 (0,0)):=by
    rw [← hW0]
    exact ((Below.heap_alloc _ _ _ (by simp; omega)).trans (Below.heap_alloc _ _ _ (by simp))).trans (World.alloc_heap_new w _)
  have h4:Boxed W0 (w.heap.size+1) 3 (.int .i64 0):=by
    rw [← hW0]
    have:=(Boxed.new (w.alloc (Obj.cells #[v0,v1,v2,v3,v4,v5] 159)) 3 (.int .i64 0)).alloc (Obj.cells #[Value.int IntKind.i64 0] 67)
    simpa using this
  have h5:Boxed W0 (w.heap.size+1+1) 67 (.int .i64 0):=by
    rw [← hW0]
    have:=Boxed.new ((w.alloc (Obj.cells #[v0,v1,v2,v3,v4,v5] 159)).alloc (Obj.cells #[Value.int IntKind.i64 0] 3)) 67 (.int .i64 0)
    simpa using this
  have Wv:=Qe day W0 S (fun b h=>by have:=hb b h; omega) (hg.mono (fun _ h=>h) (fun b h=>hB0.block b (hb b h)))
  gi_wp2
  refine ⟨trivial,(callsIn_wide.2 Wv).mono ?_⟩
  rintro e W1 ⟨rfl,Od⟩
  have X7:Below w.heap.size w W1:=hB0.trans ⟨Od.os,Od.tape,Od.output,Od.size,fun k hk=>Od.block k (by omega) (by simp)⟩
  have L7:W1.heap[w.heap.size]? = some (.cells #[v0,v1,v2,v3,v4,v5] 159 (0,0)):=(Od.block _ (by omega) (by simp)).trans VN
  have Y6:=h4.kept Od (by simp)
  have Y7:=h5.kept Od (by simp)
  have h4c:=Y6.cell
  have h4f:=Y6.frozen
  have h5c:=Y7.cell
  have h5f:=Y7.frozen
  cases hv:fa day with
  | false =>
    gi_wp2
    have q4:=Y6.set (.int .i64 0)
    have q5:=(Y7.other (B':=w.heap.size+1) (by omega) (.int .i64 0)).set (.int .i64 3)
    have q4':=q4.other (B':=w.heap.size+1+1) (by omega) (.int .i64 3)
    refine ⟨_,results193 _ _ _ _ 0 3 rfl rfl q4'.cell q5.cell,?_⟩
    have e:dY c day=(0,3):=by simp [dY,hv]
    rw [e]
    exact Ez hb ((X7.setCell (p:=⟨w.heap.size+1,0,none⟩) (by simp) _).setCell (p:=⟨w.heap.size+1+1,0,none⟩) (by simp; omega) _)
  | true =>
    have e0:W1.cell? ⟨w.heap.size,0,none⟩=some v0:=by rw [gA W1 _ 0 _ _ _ L7]; rfl
    have e1:W1.cell? ⟨w.heap.size,1,none⟩=some v1:=by rw [gA W1 _ 1 _ _ _ L7]; rfl
    have e2:W1.cell? ⟨w.heap.size,2,none⟩=some v2:=by rw [gA W1 _ 2 _ _ _ L7]; rfl
    have e3:W1.cell? ⟨w.heap.size,3,none⟩=some v3:=by rw [gA W1 _ 3 _ _ _ L7]; rfl
    have e4:W1.cell? ⟨w.heap.size,4,none⟩=some v4:=by rw [gA W1 _ 4 _ _ _ L7]; rfl
    have e5:W1.cell? ⟨w.heap.size,5,none⟩=some v5:=by rw [gA W1 _ 5 _ _ _ L7]; rfl
    have PT:0≤day∧day≤100000:=by simpa [fa,jj] using hv
    have LF:au (day+400)=day+400:=aG (by omega) (by omega)
    gi_wp2
    all_goals (refine ⟨trivial,(Y5 v0 v1 v2 v3 v4 v5 day _ W1).mono ?_⟩; rintro e W2 ⟨rfl,rfl⟩; gi_wp2; refine Xp c day _ _ v0 v1 v2 v3 v4 v5 w W1 S _ (by omega) ?_ hb hg hR X7 Y6 Y7 _ rfl ?_ ?_)
    all_goals first
      | omega
      | (intro Oj D W hD b4 b5 hB hK
         have c4:=b4.cell
         have f4:=b4.frozen
         have c5:=b5.cell
         have f5:=b5.frozen
         gi_wp2
         have q4:=(b4.set (.int .i64 0)).other (B':=w.heap.size+1+1) (by omega) (.int .i64 3)
         have q5:=(b5.other (B':=w.heap.size+1) (by omega) (.int .i64 0)).set (.int .i64 3)
         have eC:=Y6.lt
         have acA:=Y7.lt
         have hK':=((KeepsOthers.setCell W ⟨w.heap.size+1,0,none⟩ (.int .i64 0)).trans (KeepsOthers.setCell _ ⟨w.heap.size+1+1,0,none⟩ (.int .i64 3))).same D _ hK rfl
         have hB':=(hB.setCell (p:=⟨w.heap.size+1,0,none⟩) (by simp) (.int .i64 0)).setCell (p:=⟨w.heap.size+1+1,0,none⟩) (by simp; omega) (.int .i64 3)
         refine ⟨by simp,.inl ⟨_,_,rfl,run_takeDeferred hK',?_⟩⟩
         refine ⟨_,results193 _ _ _ _ 0 3 rfl rfl (q4.kept (grownBy_putObj' _ D _) (fun e=>by cases e; omega)).cell (q5.kept (grownBy_putObj' _ D _) (fun e=>by cases e; omega)).cell,?_⟩
         have e:dY c day=(0,3):=by
           simp only [dY,hv,Af,← vq]
           first
             | (rw [show min (au (day+400)) 100000=100000 from by rw [LF]; omega,Oj]; rfl)
             | (rw [show min (au (day+400)) 100000=day+400 from by rw [LF]; omega,Oj]; rfl)
             | (rw [LF,Oj]; rfl)
             | (rw [Oj]; rfl)
         rw [e]
         exact Ez hb (hB'.grown (grownBy_putObj' _ D _) hB'.size (fun k e=>by cases e; have:=X7.size; omega)))
      | (intro x D W hx hD b4 b5 hB hK
         gi_wp2
         have eC:=Y6.lt
         have acA:=Y7.lt
         refine ⟨by simp,.inl ⟨_,_,rfl,run_takeDeferred hK,?_⟩⟩
         refine ⟨_,results193 _ _ _ _ x 0 rfl rfl (b4.kept (grownBy_putObj' _ D _) (fun e=>by cases e; omega)).cell (b5.kept (grownBy_putObj' _ D _) (fun e=>by cases e; omega)).cell,?_⟩
         have e:dY c day=(x,0):=by
           simp only [dY,hv,Af,← vq]
           first
             | (rw [show min (au (day+400)) 100000=100000 from by rw [LF]; omega,hx]; rfl)
             | (rw [show min (au (day+400)) 100000=day+400 from by rw [LF]; omega,hx]; rfl)
             | (rw [LF,hx]; rfl)
             | (rw [hx]; rfl)
         rw [e]
         exact Ez hb (hB.grown (grownBy_putObj' _ D _) hB.size (fun k e=>by cases e; have:=X7.size; omega)))
theorem Ff (c:jB):∀ (n:Nat) (d x:Int),ua c n d=some x→d≤x∧x < d+n
  | 0,_,_,h=>by simp [ua] at h
  | n+1,d,x,h=>by
    simp only [ua] at h
    cases ho:fX c d with
    | true=>rw [ho] at h; simp only [cond_true,Option.some.injEq] at h; omega
    | false=>rw [ho] at h; have:=Ff c n (d+1) x h; omega
theorem BL (c:jB) (day:Int):(fun (x:Int × Int)=>x.2=0→day≤x.1∧x.1≤100000) (dY c day):=by
  dsimp only
  unfold dY
  cases hv:fa day with
  | false=>intro h; exact absurd (show (3:Int)=0 from h) (by decide)
  | true =>
    simp only [Bool.not_true,cond_false]
    cases hd:Af c day (min (au (day+400)) 100000) with
    | none=>intro h; exact absurd (show (3:Int)=0 from h) (by decide)
    | some d =>
      intro _
      have:=Ff c _ _ _ hd
      simp only
      omega
def kS (c:jB) (day:Int):gn (Int × Int):=⟨Tryz.prog,193,[av c.cells,iv day],fun x=>.fL [iv x.1,iv x.2],true,dY c day,True,fun _=>EA c day,fun x=>x.2=0→day≤x.1∧x.1≤100000,BL c day⟩
end
section
open Go Go.Av
def iQ (r:ah) (bZ:Int) (day:Int):Sk (Int × Int) :=
 .r 1 ((cI r bZ).c) fun x1 =>
 .loop (default:Int × Int) (fun i2=>(0:Int)≤i2∧i2≤100001) (fun i2=>(100001 - i2).toNat) (day:Int)
 (fun (i2:Int)=>⟨[(2,iv i2)],[]⟩) fun i2 =>
 .r 2 ((xz r x1 i2).c) fun x3 =>
 .r 3 (.aq (.p (bG bZ r.aI.length)) ((kS (r.aI.getD bZ.toNat default) x3).c)) fun x4 =>
 .br (x4.2 != 0)
 (.fin (.inl (0,3)))
 (.br (x4.1 == x3)
 (.fin (.inl (x3,0)))
 (.fin (.inr x4.1)))
def Dh r bZ day:=(iQ r bZ day).val
theorem EB (r:ah) (bZ:Int) (day:Int) (hP:(0≤bZ∧bZ < (r.aI.length:Int))∧(0≤day∧day≤100001)∧r.dQ):(iQ r bZ day).cZ (fun (x:Int × Int)=>x.2=0→0≤x.1∧x.1≤100001):=by
 refine Sk.bp _ ?_
 unfold iQ
 simp only [Sk.cV,Sk.aO,reduceCtorEq,ON,kk,kp,kS,cI,xz,ah.dQ,maxLen]
 obtain ⟨hc,hd,hh⟩:=hP
 intro _ _
 refine ⟨hd,fun i hi y hy hyp x hx hxp=>⟨fun _ h=>absurd h (by decide),fun he=>⟨fun hq=>?_,fun hq=>⟨?_,?_⟩⟩⟩⟩
 all_goals have h2:=hyp ⟨hh,hi⟩
 all_goals simp only [LN] at he hq
 all_goals have h3:=hxp he
 all_goals omega
theorem Di (r:ah) (bZ:Int) (day:Int):(fun (x:Int × Int)=>((0≤bZ∧bZ < (r.aI.length:Int))∧(0≤day∧day≤100001)∧r.dQ)→(x.2=0→0≤x.1∧x.1≤100001)) (Dh r bZ day):=fun hP=>Sk.de _ (EB r bZ day hP)
theorem F9 (r:ah) (bZ:Int) (day:Int) (hc:0≤bZ∧bZ < (r.aI.length:Int)) (hd:0≤day∧day≤100001) (hh:r.dQ):(iQ r bZ day).bz (fun _=>True):=by
 simp only [ah.dQ] at hh
 unfold iQ
 try simp only [kS,cI,xz,ah.dQ]
 exact oj
def ub r bZ day:=kk tok mixed Tryz.func142 [av r.cells,iv bZ,iv day] (fun x=>.fL [iv x.1,iv x.2]) true (iQ r bZ day) (Dh r bZ day) (u3 (F9 r bZ day)) (fun (x:Int × Int)=>((0≤bZ∧bZ < (r.aI.length:Int))∧(0≤day∧day≤100001)∧r.dQ)→(x.2=0→0≤x.1∧x.1≤100001)) (Di r bZ day)
def pP (r:ah) (b:qd) (seen:Int) (rR:Int):Sk (Int × Int) :=
 .r 2 (.dep ((vn r).c) fun x1=>.dep (.wh (x1 != 0) false ((pL r b.bZ).c)) fun x2=>.dep (.wh ((x1 != 0)||(!x2)) false ((pL r b.yo).c)) fun x3=>.wh (((x1 != 0)||(!x2))||(!x3)) false ((nC b.day).c)) fun RZ =>
 .br ((((RZ.1 != 0)||(!RZ.2.1))||(!RZ.2.2.1))||(!RZ.2.2.2))
 (.fin (0,1))
 (.br ((((decide (b.cR.kind < 0))||(decide (b.cR.kind≥5)))||(decide (b.cR.unit < 0)))||(decide (b.cR.unit≥2)))
 (.fin (0,1))
 (.r 6 (.wh (seen != (-1)) true ((nC seen).c)) fun x5 =>
 .br ((((seen != (-1))&&(!x5))||(decide (rR < 0)))||(decide (rR > 20000)))
 (.fin (0,1))
 (.r 8 ((tZ b.cR).c) fun x6 =>
 .br (x6&&(seen == (-1)))
 (.fin (0,4))
 (.r 10 ((xy r b seen).c) fun x7 =>
 .br (x7.2 != 0)
 (.fin (0,x7.2))
 (.r 13 ((nC x7.1).c) fun x8 =>
 .br ((!x8)||(decide ((au (x7.1+rR)) > 100000)))
 (.fin (0,3))
 (.r 15 ((ub r b.yo (au (x7.1+rR))).c) fun x9 =>
 .fin (x9.1,x9.2)))))))
def LG r b seen rR:=(pP r b seen rR).val
theorem KQ (r:ah) (b:qd) (seen:Int) (rR:Int):(pP r b seen rR).cZ (fun (x:Int × Int)=>x.2=0→0≤x.1∧x.1≤100001):=by
 refine Sk.bp _ ?_
 unfold pP
 simp only [Sk.cV,Sk.aO,reduceCtorEq,ON,kk,kp,vn,tZ,xy,pL,nC,ub,xX,xW,zy,forall_eq,al.Small,ah.Small,ah.dQ,maxLen]
 intro hr
 refine ⟨fun _ h=>absurd h (by decide),fun h1=>⟨fun _ h=>absurd h (by decide),fun _=>⟨fun _ h=>absurd h (by decide),fun h3=>⟨fun _ h=>absurd h (by decide),fun _=>⟨fun h h'=>by rw [h'] at h; exact absurd h (by decide),fun h4=>⟨fun _ h=>absurd h (by decide),fun h5 himp=>?_⟩⟩⟩⟩⟩⟩
 simp only [LN] at h1 h5
 have e:∀ x g:Int,0≤x∧x≤100000→0≤g∧g≤20000→0≤au (x+g):=fun x g h1 h2=>by rw [aG (by omega) (by omega)]; omega
 have h6:0≤rR∧rR≤20000:=by simp only [LN] at h3; omega
 refine himp ⟨by omega,⟨e _ _ h5.1 h6,by omega⟩,hr h1.1.1.1⟩
theorem Ng (r:ah) (b:qd) (seen:Int) (rR:Int) (bN:r.Small):(pP r b seen rR).bz (fun _=>True):=by
 simp only [al.Small,ah.Small,ah.dQ] at bN
 unfold pP
 try simp only [vn,tZ,xy,pL,nC,ub,xX,xW,zy,al.Small,ah.Small,ah.dQ]
 exact yn
def Fg r b seen rR:=kp tok mixed Tryz.func100 [av r.cells,av b.cells,iv seen,iv rR] (fun x=>.fL [iv x.1,iv x.2]) true (LG r b seen rR) (Ng r b seen rR) (KQ r b seen rR)
def nV (r:ah) (forum:Int) (f:al) (day:Int):Sk (Int) :=
 .r 1 ((ch f day).c) fun x1 =>
 .br (((x1.af.length:Nat):Int) == 0)
 (.fin (-1))
 (.r 4 (.dep ((ou r forum 6 x1 day).c) fun x2=>(mJ x2).c) fun p7 =>
 .r 5 (.dep ((nA x1).c) fun x4=>(Fg r x1.aR x4 (cg p7.2 0)).c) fun p6 =>
 .br (p6.2.2 != 0)
 (.fin (-1))
 (.fin p6.2.1))
def cb r forum f day:=(nV r forum f day).val
theorem Ga (r:ah) (forum:Int) (f:al) (day:Int) (bM:f.Small) (cu:r.cG) (bN:r.Small):(nV r forum f day).bz (fun _=>True):=by
 simp only [al.Small,ah.Small,ah.cG] at bM
 simp only [al.Small,ah.Small,ah.cG] at cu
 simp only [al.Small,ah.Small,ah.cG] at bN
 unfold nV
 try simp only [ou,mJ,ch,nA,Fg,al.Small,ah.Small,ah.cG]
 exact oj
def cK r forum f day:=kk tok mixed Tryz.func53 [av r.cells,iv forum,av f.cells,iv day] (fun x=>iv x) true (nV r forum f day) (cb r forum f day) (u3 (Ga r forum f day))
theorem Fh (r:ah) (fo:Int) (f:al) (day:Int):cb r fo f day = 
  bif ((ai f day).af.length:Int) == 0 then -1 else (fun p:Int × Int=>bif p.2 != 0 then -1 else p.1) (LG r (ai f day).aR (lY (ai f day)) (cg (qC (rP r fo 6 (ai f day) day)) 0)):=by
 kernel_rfl
def qH (r:ah) (forum:Int) (f:al) (day:Int):Sk (eu × Bool) :=
 .br ((decide (forum < 0))||(decide (forum≥((r.aE.length:Nat):Int))))
 (.fin (({ view:=({ all:=({ aR:=({ Bs:=0,na:=0,kr:=0,sum:=0,az:=0,cR:=({ kind:=0,n:=0,unit:=0 }:rF),day:=0,bZ:=0,yo:=0,need:=0,lg:=0,flags:=0,parts:=0 }:qd),af:=[],aN:=[],aA:=[],facts:=[] }:al),now:=({ aR:=({ Bs:=0,na:=0,kr:=0,sum:=0,az:=0,cR:=({ kind:=0,n:=0,unit:=0 }:rF),day:=0,bZ:=0,yo:=0,need:=0,lg:=0,flags:=0,parts:=0 }:qd),af:=[],aN:=[],aA:=[],facts:=[] }:al),day:=0,lead:=[] }:View),r:=({ ck:=[],aI:=[],fP:=[],bm:=[],aE:=[],aM:=[],bE:=[],ep:=[] }:ah),forum:=0,due:=0 }:eu),false))
 (.r 3 (.dep ((BA f day).c) fun _=>(cK r forum f day).c) fun p3 =>
 .fin (({ view:=p3.1,r:=r,forum:=forum,due:=p3.2 }:eu),true))
def aC r forum f day:=(qH r forum f day).val
theorem Fi (r:ah) (forum:Int) (f:al) (day:Int):(qH r forum f day).cZ (fun (x:eu × Bool)=>x.2=true→x.1=⟨aB f day,r,forum,cb r forum f day⟩∧0≤forum∧forum < (r.aE.length:Int)):=by
 unfold qH
 try simp only [cK,BA,al.Small,ah.Small,ah.cG]
 exact DE
theorem Dj (r:ah) (forum:Int) (f:al) (day:Int):(fun (x:eu × Bool)=>x.2=true→x.1=⟨aB f day,r,forum,cb r forum f day⟩∧0≤forum∧forum < (r.aE.length:Int)) (aC r forum f day):=have h:=Sk.de _ (Fi r forum f day); h
theorem Sm (r:ah) (forum:Int) (f:al) (day:Int) (bM:f.Small) (cu:r.cG) (bN:r.Small):(qH r forum f day).bz (fun _=>True):=by
 simp only [al.Small,ah.Small,ah.cG] at bM
 simp only [al.Small,ah.Small,ah.cG] at cu
 simp only [al.Small,ah.Small,ah.cG] at bN
 unfold qH
 try simp only [cK,BA,al.Small,ah.Small,ah.cG]
 exact oj
def EC r forum f day:=kp tok mixed Tryz.func23 [av r.cells,iv forum,av f.cells,iv day] (fun x=>.fL [av x.1.cells,bv x.2]) false (aC r forum f day) (u3 (Sm r forum f day)) (Fi r forum f day)
structure cC where
 sign:Int
 kind:Int
 fA:Int
 binds:Int
 text:Int
 sum:Int
 eI:Bool
 deriving Inhabited
def cC.cells (c:cC):List D:=[dI c.sign,dI c.kind,dI c.fA,dI c.binds,dI c.text,dI c.sum,dB c.eI]
def cC.E:Pn cC:=⟨cC.cells,7,fun _=>rfl,fun _=>rfl⟩
structure kT where
 r:ah
 forum:Int
 day:Int
 f:al
 form:Int
 due:Int
 deriving Inhabited
def kT.cells (c:kT):List D:=c.r.cells++[dI c.forum,dI c.day]++c.f.cells++[dI c.form,dI c.due]
def xA (s:lW):Sk (Int) :=
 .br (s.err != 0)
 (.fin 0)
 (.br (!s.cell.known)
 (.fin 2)
 (.br (s.cell.n != 0)
 (.fin 1)
 (.fin 0)))
def iA s:=(xA s).val
theorem Sn (s:lW):(xA s).bz (fun _=>True):=by
 unfold xA
 exact pv
def fp s:=kk tok mixed Tryz.func70 [av s.cells] (fun x=>iv x) true (xA s) (iA s) (u0 (Sn s))
def pQ (r:ah) (forum:Int) (f:al) (day:Int):Sk (kT) :=
 .r 1 ((ch f day).c) fun x1 =>
 .r 2 (.dep ((ou r forum 0 x1 day).c) fun x2=>.dep ((fp x2).c) fun _=>(cK r forum x1 day).c) fun p5 =>
 .fin ({ r:=r,forum:=forum,day:=day,f:=x1,form:=p5.2.1,due:=p5.2.2 }:kT)
def gT r forum f day:=(pQ r forum f day).val
theorem Bb (r:ah) (forum:Int) (f:al) (day:Int):(pQ r forum f day).cZ (fun (x:kT)=>x.f=ai f day∧x.r=r):=by
 unfold pQ
 try simp only [ou,cK,fp,ch,al.Small,ah.Small,ah.cG]
 exact DE
theorem I2 (r:ah) (forum:Int) (f:al) (day:Int):(fun (x:kT)=>x.f=ai f day∧x.r=r) (gT r forum f day):=have h:=Sk.de _ (Bb r forum f day); h
theorem Nh (r:ah) (forum:Int) (f:al) (day:Int) (bM:f.Small) (cu:r.cG) (bN:r.Small):(pQ r forum f day).bz (fun _=>True):=by
 simp only [al.Small,ah.Small,ah.cG] at bM
 simp only [al.Small,ah.Small,ah.cG] at cu
 simp only [al.Small,ah.Small,ah.cG] at bN
 unfold pQ
 try simp only [ou,cK,fp,ch,al.Small,ah.Small,ah.cG]
 exact oj
def l5 r forum f day:=kp tok mixed Tryz.func54 [av r.cells,iv forum,av f.cells,iv day] (fun x=>av x.cells) false (gT r forum f day) (u3 (Nh r forum f day)) (Bb r forum f day)
def nW (f:al) (day:Int):Sk ((List (Int × Bool))) :=
 .r 1 (.o [.rz (mkM dB)]) fun _ =>
 .bt
 (.loop (default:Sum ((List (Int × Bool))) ((List (Int × Bool)))) (fun i2=>i2.1≤f.aA.length) (fun i2=>f.aA.length - i2.1) ((0,([]:List (Int × Bool))):Nat × (List (Int × Bool)))
 (fun (i2:Nat × (List (Int × Bool)))=>⟨[(12,iv (i2.1:Int))],[(8,mpM dB i2.2)]⟩) fun i2 =>
 .lt 10 0 i2.1 f.aA.length
 (.r 4 (.p (bG (i2.1:Int) f.aA.length)) fun _ =>
 .br ((((f.aA.getD i2.1 default).kind) == 7)&&(decide (((f.aA.getD i2.1 default).day)≤day)))
 (.r 6 (.aq (.t (E7 dB i2.2)) (.o [.rz (YQ dB i2.2 ((f.aA.getD i2.1 default).at_) true)])) fun _ =>
 .r 7 .z fun _ =>
 .wi 12 (au ((i2.1:Int)+1)) ((i2.1+1:Nat):Int) <|
 .fin (.inr (i2.1+1,sJ i2.2 ((f.aA.getD i2.1 default).at_) true)))
 (.nx 7 12 i2.1 (i2.1+1,i2.2)))
 (.fin (.inl (.inr i2.2))))
 (fun (b1:(List (Int × Bool)))=>⟨[],[(8,mpM dB b1)]⟩) fun b1 =>
 .fin b1
def fc f day:=(nW f day).val
theorem Gb (f:al) (day:Int):(nW f day).bz (fun _=>True):=by
 unfold nW
 exact oj
def pR f day:=kk tok mixed Tryz.func144 [av f.cells,iv day] (fun x=>pmM dB x) false (nW f day) (fc f day) (u0 (Gb f day))
def nX (f:al) (sign:Int) (day:Int):Sk (Bool) :=
 .r 1 (.o9 (.wh ((decide (sign≥0))&&(decide (sign < ((f.af.length:Nat):Int)))) true ((pR f day).c)) fun x1=>.wh ((decide (sign≥0))&&(decide (sign < ((f.af.length:Nat):Int)))) true (.aq (.t (E7 dB x1)) (.o [.cast 21 (getM dB x1 sign false)]))) fun x1 =>
 .fin (((decide (sign≥0))&&(decide (sign < ((f.af.length:Nat):Int))))&&(Cy x1 sign false))
def jm f sign day:=(nX f sign day).val
theorem Gc (f:al) (sign:Int) (day:Int):(nX f sign day).bz (fun _=>True):=by
 unfold nX
 try simp only [pR]
 exact pv
def pS f sign day:=kk tok mixed Tryz.func102 [av f.cells,iv sign,iv day] (fun x=>bv x) true (nX f sign day) (jm f sign day) (u0 (Gc f sign day))
def lM (v:kT) (aU:Int) (sign:Int):Sk (Int) :=
 .r 2 (.dep ((gS v.r v.forum aU ({ file:=v.f,sign:=sign,jE:=sign,jO:=(-1),due:=v.due,day:=v.day }:fw)).c) fun x1=>(fp x1).c) fun p3 =>
 .fin p3.2
def dZ v aU sign:=(lM v aU sign).val
theorem Dk (v:kT) (aU:Int) (sign:Int) (gN:v.f.Small) (l6:v.r.cG) (ku:v.r.Small):(lM v aU sign).bz (fun _=>True):=by
 unfold lM
 try simp only [gS,fp]
 exact oj
def dF v aU sign:=kk tok mixed Tryz.func104 [av v.cells,iv aU,iv sign] (fun x=>iv x) true (lM v aU sign) (dZ v aU sign) (u3 (Dk v aU sign))
def kb (f:al) (i:Int):Sk (Int) :=
 .bind true (fun b1=>f.pw→0≤b1∧b1≤1099511627776)
 (.loop (default:Sum (Int) (Int)) (fun i2=>i2.2≤f.aN.length∧(f.pw→0≤i2.1∧i2.1≤1099511627776)) (fun i2=>f.aN.length - i2.2) ((f.aR.sum,0):Int × Nat)
 (fun (i2:Int × Nat)=>⟨[(5,iv i2.1),(14,iv (i2.2:Int))],[]⟩) fun i2 =>
 .lt 12 0 i2.2 f.aN.length
 (.r 4 (.p (bG (i2.2:Int) f.aN.length)) fun _ =>
 .br (decide (((f.aN.getD i2.2 default).at_)≤i))
 (.nx 7 14 i2.2 ((f.aN.getD i2.2 default).sum,i2.2+1))
 (.nx 7 14 i2.2 (i2.1,i2.2+1)))
 (.fin (.inl (.inr i2.1))))
 (fun (b1:Int)=>⟨[(5,iv b1)],[]⟩) fun b1 =>
 .fin b1
def kx f i:=(kb f i).val
theorem Gd (f:al) (i:Int) (hP:f.pw):(kb f i).cZ (fun (x:Int)=>0≤x∧x≤1099511627776):=by
 refine Sk.bp _ ?_
 unfold kb
 simp only [Sk.cV,Sk.aO,reduceCtorEq,ON,kk,kp,maxLen]
 refine ⟨⟨⟨Nat.zero_le _,fun h=>h.1⟩,fun i hi=>⟨fun hc _=>?_,fun _=>hi.2⟩⟩,fun b hb=>hb hP⟩
 simp only [LN] at hc
 exact ⟨fun _ _=>⟨⟨by omega,fun h=>h.2.1 _ (by omega)⟩,by omega⟩,fun _ _=>⟨⟨by omega,hi.2⟩,by omega⟩⟩
theorem ED (f:al) (i:Int):(fun (x:Int)=>(f.pw)→(0≤x∧x≤1099511627776)) (kx f i):=fun hP=>Sk.de _ (Gd f i hP)
theorem I3 (f:al) (i:Int):(kb f i).bz (fun _=>True):=by
 refine Sk.aX _ ?_
 unfold kb
 simp only [Sk.kq,Sk.aO,reduceCtorEq,ON,kk,kp,maxLen]
 refine ⟨⟨Nat.zero_le _,fun h=>h.1⟩,fun i hi hm=>⟨fun hc=>?_,fun _=>hi.2⟩⟩
 simp only [LN] at hc
 have hw:au ((i.2:Int)+1)=((i.2+1:Nat):Int):=(aG (by omega) (by omega)).trans (by omega)
 exact ⟨by omega,fun _=>⟨fun _ _=>⟨hw,⟨by omega,fun h=>h.2.1 _ (by omega)⟩,by omega⟩,fun _ _=>⟨hw,⟨by omega,hi.2⟩,by omega⟩⟩⟩
def ri f i:=kk tok mixed Tryz.func145 [av f.cells,iv i] (fun x=>iv x) true (kb f i) (kx f i) (u0 (I3 f i)) (fun (x:Int)=>(f.pw)→(0≤x∧x≤1099511627776)) (ED f i)
def fg (v:kT) (sign:Int):Sk (Int × Int) :=
 .r 1 ((ri v.f sign).c) fun x1 =>
 .bind true (fun b2=>b2=true→v.f.aN.length≠0)
 (.loop (default:Sum (Int × Int) (Bool)) (fun i3=>i3.2≤v.f.aN.length∧(i3.1=true→v.f.aN.length≠0)) (fun i3=>v.f.aN.length - i3.2) ((false,0):Bool × Nat)
 (fun (i3:Bool × Nat)=>⟨[(7,bv i3.1),(23,iv (i3.2:Int))],[]⟩) fun i3 =>
 .lt 21 0 i3.2 v.f.aN.length
 (.r 6 (.p (bG (i3.2:Int) v.f.aN.length)) fun _ =>
 .r 8 .z fun _ =>
 .wi 23 (au ((i3.2:Int)+1)) ((i3.2+1:Nat):Int) <|
 .fin (.inr (i3.1||(decide (((v.f.aN.getD i3.2 default).at_) > sign)),i3.2+1)))
 (.fin (.inl (.inr i3.1))))
 (fun (b2:Bool)=>⟨[(7,bv b2)],[]⟩) fun b2 =>
 .br (!b2)
 (.fin (0,x1))
 (.r 11 (.p (bG (au (((v.f.aN.length:Nat):Int) - 1)) v.f.aN.length)) fun _ =>
 .r 12 ((dF v 4 sign).c) fun x4 =>
 .br (x4 == 1)
 (.fin (x4,(v.f.aN.getD ((au (((v.f.aN.length:Nat):Int) - 1)).toNat) default).sum))
 (.br (x4 == 2)
 (.fin (x4,bL x1 ((v.f.aN.getD ((au (((v.f.aN.length:Nat):Int) - 1)).toNat) default).sum)))
 (.fin (x4,x1))))
def dn v sign:=(fg v sign).val
theorem BM (v:kT) (sign:Int) (hP:v.f.pw∧v.f.Small):(fg v sign).cZ (fun (x:Int × Int)=>0≤x.2∧x.2≤1099511627776):=by
 refine Sk.bp _ ?_
 unfold fg
 simp only [Sk.cV,Sk.aO,reduceCtorEq,ON,kk,kp,dF,ri,maxLen]
 intro x _ hx
 have hx:=hx hP.1
 refine ⟨⟨Nat.zero_le _,fun i hi=>⟨fun hc _ _=>?_,fun _=>hi.2⟩⟩,fun b hb=>⟨fun _=>hx,fun wN _ y _=>?_⟩⟩
 ·simp only [LN] at hc
  exact ⟨⟨by omega,fun _=>by omega⟩,by omega⟩
 ·have hn:=hb (by simpa using wN)
  have hl:=hP.2.2.1
  rw [aG (by omega) (by omega)]
  obtain ⟨h1,h2⟩:=hP.1.2.1 ((v.f.aN.length:Int) - 1).toNat (by omega)
  refine ⟨fun _=>⟨h1,h2⟩,fun _=>⟨fun _=>?_,fun _=>hx⟩⟩
  unfold bL
  split <;> omega
theorem AI (v:kT) (sign:Int):(fun (x:Int × Int)=>(v.f.pw∧v.f.Small)→(0≤x.2∧x.2≤1099511627776)) (dn v sign):=fun hP=>Sk.de _ (BM v sign hP)
theorem Dl (v:kT) (sign:Int) (gN:v.f.Small) (l6:v.r.cG) (ku:v.r.Small):(fg v sign).bz (fun _=>True):=by
 refine Sk.aX _ ?_
 unfold fg
 simp only [Sk.kq,Sk.aO,reduceCtorEq,ON,kk,kp,dF,ri,maxLen]
 intro x _ _
 refine ⟨⟨Nat.zero_le _,fun i hi hm=>⟨fun hc=>?_,fun _=>hi.2⟩⟩,fun b hb wN=>?_⟩
 ·simp only [LN] at hc
  exact ⟨by omega,fun _ _=>⟨(aG (by omega) (by omega)).trans (by omega),⟨by omega,fun _=>by omega⟩,by omega⟩⟩
 ·have hn:=hb (by simpa using wN)
  have hl:=gN.2.1
  rw [aG (by omega) (by omega)]
  exact ⟨by omega,fun _=>⟨gN,l6,ku⟩⟩
def mN v sign:=kk tok mixed Tryz.func105 [av v.cells,iv sign] (fun x=>.fL [iv x.1,iv x.2]) true (fg v sign) (dn v sign) (u3 (Dl v sign)) (fun (x:Int × Int)=>(v.f.pw∧v.f.Small)→(0≤x.2∧x.2≤1099511627776)) (AI v sign)
def dT (v:kT) (sign:Int):Sk (cC) :=
 .r 1 (.p (bG sign v.f.af.length)) fun _ =>
 .r 3 ((pS v.f sign v.day).c) fun x1 =>
 .bind false (fun _=>True)
 (.br (!x1)
 (.r 4 (.dep ((dF v 1 sign).c) fun x3=>.dep ((dF v 2 sign).c) fun x4=>.aq (.o [.fU (gB eA [v.form,x3,x4])]) ((oK [v.form,x3,x4]).c)) fun p6 =>
 .fin (.inr p6.2.2))
 (.fin (.inr 0)))
 (fun (b2:Int)=>⟨[],[(6,.box [iv sign,iv ((v.f.af.getD sign.toNat default).kind),iv ((v.f.af.getD sign.toNat default).dt),iv b2,iv 0,iv 0,bv ((((v.f.af.getD sign.toNat default).kind) != 1)&&((dP .i64 ((v.f.af.getD sign.toNat default).flags) 1) == 0))])]⟩) fun b2 =>
 .r 5 ((mN v sign).c) fun x7 =>
 .br ((((v.f.af.getD sign.toNat default).kind) == 1)||(((v.f.af.getD sign.toNat default).kind) == 4))
 (.fin ({ sign:=sign,kind:=(v.f.af.getD sign.toNat default).kind,fA:=(v.f.af.getD sign.toNat default).dt,binds:=b2,text:=x7.1,sum:=bL x7.2 ((v.f.af.getD sign.toNat default).sum),eI:=(((v.f.af.getD sign.toNat default).kind) != 1)&&((dP .i64 ((v.f.af.getD sign.toNat default).flags) 1) == 0) }:cC))
 (.fin ({ sign:=sign,kind:=(v.f.af.getD sign.toNat default).kind,fA:=(v.f.af.getD sign.toNat default).dt,binds:=b2,text:=x7.1,sum:=x7.2,eI:=(((v.f.af.getD sign.toNat default).kind) != 1)&&((dP .i64 ((v.f.af.getD sign.toNat default).flags) 1) == 0) }:cC))
def bR v sign:=(dT v sign).val
theorem zC (v:kT) (sign:Int) (hP:v.f.pw∧v.f.Small∧0≤sign∧sign < (v.f.af.length:Int)):(dT v sign).cZ (fun (x:cC)=>0≤x.sum∧x.sum≤1099511627776):=by
 refine Sk.bp _ ?_
 unfold dT
 simp only [Sk.cV,Sk.aO,reduceCtorEq,ON,kk,kp,oK,dF,mN,pS,maxLen]
 intro _ x _ b _ y _ hy
 have hy:=hy ⟨hP.1,hP.2.1⟩
 obtain ⟨h1,h2⟩:=hP.1.2.2.1 sign.toNat (by omega)
 exact ⟨fun _=>by unfold bL; split <;> omega,fun _=>hy⟩
theorem yf (v:kT) (sign:Int):(fun (x:cC)=>(v.f.pw∧v.f.Small∧0≤sign∧sign < (v.f.af.length:Int))→(0≤x.sum∧x.sum≤1099511627776)) (bR v sign):=fun hP=>Sk.de _ (zC v sign hP)
theorem AJ (v:kT) (sign:Int) (hs:0≤sign∧sign < (v.f.af.length:Int)) (gN:v.f.Small) (l6:v.r.cG) (ku:v.r.Small):(dT v sign).bz (fun _=>True):=by
 unfold dT
 try simp only [oK,dF,mN,pS]
 exact oj
def eB v sign:=kk tok mixed Tryz.func55 [av v.cells,iv sign] (fun x=>av x.cells) true (dT v sign) (bR v sign) (u4 (AJ v sign)) (fun (x:cC)=>(v.f.pw∧v.f.Small∧0≤sign∧sign < (v.f.af.length:Int))→(0≤x.sum∧x.sum≤1099511627776)) (yf v sign)
def iR (r:ah) (forum:Int) (f:al) (day:Int):Sk ((List cC)) :=
 .r 1 ((l5 r forum f day).c) fun x1 =>
 .bind true (fun b2=>b2.length=x1.f.af.length)
 (.loop (default:Sum ((List cC)) ((List cC))) (fun i3=>i3.2≤x1.f.af.length∧i3.1.length=i3.2) (fun i3=>x1.f.af.length - i3.2) (([],0):(List cC) × Nat)
 (fun (i3:(List cC) × Nat)=>⟨[(10,ow 100002 i3.1),(21,iv (i3.2:Int))],[(100002,bO 131 7 cC.cells i3.1)]⟩) fun i3 =>
 .lt 9 25 i3.2 x1.f.af.length
 (.r 6 (.o9 ((eB x1 (i3.2:Int)).c) fun x4=>.aq (.o [.fU (gB cC.E [x4])]) (.aq (.o [.fU (og cC.E i3.1 [x4])]) (.aq (.t (cC.E.qc [x4])) (.p (ym i3.1.length [x4].length 56))))) fun x4 =>
 .nx 7 21 i3.2 (i3.1++[x4],i3.2+1))
 (.fin (.inl (.inr i3.1))))
 (fun (b2:(List cC))=>⟨[(10,ow 100001 b2)],[(100001,bO 131 7 cC.cells b2)]⟩) fun b2 =>
 .fin b2
def aQ r forum f day:=(iR r forum f day).val
theorem EE (r:ah) (forum:Int) (f:al) (day:Int):(iR r forum f day).cZ (fun (x:(List cC))=>x.length=(ai f day).af.length):=by
 unfold iR
 try simp only [l5,eB]
 exact DE
theorem Ge (r:ah) (forum:Int) (f:al) (day:Int) (bM:f.Small) (cu:r.cG) (bN:r.Small):(iR r forum f day).bz (fun _=>True):=by
 refine Sk.aX _ ?_
 unfold iR
 simp only [Sk.kq,Sk.aO,reduceCtorEq,ON,kk,kp,l5,eB,maxLen]
 refine ⟨⟨bM,cu,bN⟩,fun x _ hx=>?_⟩
 have hS:x.f.Small:=by rw [hx.1]; exact zg bM day
 have hB:x.r.cG:=by rw [hx.2]; exact cu
 have hR:x.r.Small:=by rw [hx.2]; exact bN
 have hS1:=hS.1
 all_goals exact okT
def uc r forum f day:=kp tok mixed Tryz.func24 [av r.cells,iv forum,av f.cells,iv day] (fun x=>lv cC.cells x) false (aQ r forum f day) (u3 (Ge r forum f day)) (EE r forum f day)
structure I4 where
 af:List Int
 jE:Int
 broken:Int
 Sq:Bool
 Xq:Int
 late:List Int
 deriving Inhabited
def I4.cells (c:I4):List D:=[mW bU c.af,dI c.jE,dI c.broken,dB c.Sq,dI c.Xq,mW bU c.late]
def jo (f:al) (day:Int):Sk (Int × Bool) :=
 .bt
 (.loop (default:Sum (Int × Bool) (Int × Bool)) (fun i2=>i2.2.2≤f.aA.length) (fun i2=>f.aA.length - i2.2.2) ((0,false,0):Int × Bool × Nat)
 (fun (i2:Int × Bool × Nat)=>⟨[(6,iv i2.1),(7,bv i2.2.1),(13,iv (i2.2.2:Int))],[]⟩) fun i2 =>
 .lt 11 0 i2.2.2 f.aA.length
 (.r 4 (.p (bG (i2.2.2:Int) f.aA.length)) fun _ =>
 .br ((((((f.aA.getD i2.2.2 default).kind) != 1)&&(((f.aA.getD i2.2.2 default).kind) != 3))&&(((f.aA.getD i2.2.2 default).kind) != 4))||(decide (((f.aA.getD i2.2.2 default).day) > day)))
 (.nx 8 13 i2.2.2 (i2.1,i2.2.1,i2.2.2+1))
 (.br ((!i2.2.1)||(decide (((f.aA.getD i2.2.2 default).day) < i2.1)))
 (.nx 8 13 i2.2.2 ((f.aA.getD i2.2.2 default).day,true,i2.2.2+1))
 (.nx 8 13 i2.2.2 (i2.1,i2.2.1,i2.2.2+1))))
 (.fin (.inl (.inr (i2.1,i2.2.1)))))
 (fun (b1:Int × Bool)=>⟨[(6,iv b1.1),(7,bv b1.2)],[]⟩) fun b1 =>
 .fin (b1.1,b1.2)
def jq f day:=(jo f day).val
theorem zD (f:al) (day:Int):(jo f day).bz (fun _=>True):=by
 unfold jo
 exact oj
def jQ f day:=kk tok mixed Tryz.func106 [av f.cells,iv day] (fun x=>.fL [iv x.1,bv x.2]) true (jo f day) (jq f day) (u0 (zD f day))
def iB (f:al) (part:Int) (day:Int):Sk (Unit) :=
 .fin ()
def ud f part day:=(iB f part day).val
theorem qh (f:al) (part:Int) (day:Int):ud f part day=():=rfl
theorem yg (f:al) (part:Int) (day:Int):(iB f part day).bz (fun _=>True):=by
 unfold iB
 exact pv
def jr f part day:=kk tok mixed Tryz.func107 [av f.cells,iv part,iv day] (fun x=>.fn 146 [.ref f.cells,.ref [dI day],.ref [dI part]]) false (iB f part day) (ud f part day) (u0 (yg f part day))
end
section
open Go Go.Av
def Dm (f:al) (day part:Int) (i:Nat):Bool :=
 ((((f.af.getD i default).kind == 2)&&((f.af.getD i default).part == part))&&decide ((f.af.getD i default).day≤day))&&!(Cy (fc f day) ((i:Nat):Int) false)
def bo (f:al) (day part:Int):List (Int × Sign):=((List.range f.af.length).filter (Dm f day part)).map fun i=>(((i:Nat):Int),f.af.getD i default)
def I5 (y:Int × Sign):List AV:=[iv y.1,av y.2.cells]
def aer:Code:=Tryz.f146.body.getD .skip
def Sr:Code:=cA (cA (cB (cB aer)))
def Qf:Code:=cA (cB (cB Sr))
def Ss:Array Oper:=opsOf (cA (cB (cA Qf)))
def Xr (f:al) (day part:Int) (m:List (Int × Bool)) (i:Nat):List (Nat × AV):=[(2,.ref [dI day]),(3,.ref [dI part]),(5,pmM dB m),(12,lv Sign.cells f.af),(13,iv ((f.af.length:Nat):Int)),(14,iv ((i:Nat):Int))]
def ue (f:al) (day part:Int) (i:Nat):Nat:=((List.range i).filter (Dm f day part)).length
def Y8:List Item:=[.code (cB (cB (cA Qf))),.inBlock 1,.code (cB (cB (cB Sr))),.inLoop Sr,.inBlock 0]
theorem Su (f:al) (day part:Int) {i:Nat} (hi:i < f.af.length) (h:Dm f day part i=true):((bo f day part).map I5)[ue f day part i]? = some (I5 (((i:Nat):Int),f.af.getD i default)):=by
 have e:List.range f.af.length=List.range i++i :: (List.range' (i+1) (f.af.length - i - 1)):=by
  rw [List.range_eq_range',List.range_eq_range']
  have h1:=List.range'_append (s:=0) (m:=i) (n:=f.af.length - i) (step:=1)
  have h2:f.af.length - i=(f.af.length - i - 1)+1:=by omega
  rw [show f.af.length=i+(f.af.length - i) by omega,← h1,h2,List.range'_succ]
  simp
 unfold bo ue
 rw [e,List.filter_append,List.filter_cons_of_pos h]
 simp
theorem Qg (f:al) (day part:Int) (i:Nat):ue f day part (i+1)=bif Dm f day part i then ue f day part i+1 else ue f day part i:=by
 unfold ue
 rw [List.range_succ,List.filter_append]
 cases h:Dm f day part i <;> simp [h]
def Dn (q:Nat):Oper:=Ss.getD q default
def Sv (f:al) (day part:Int) (i:Nat) (sl:List (Nat × AV)):St:=⟨sl++[(6,iv ((i:Nat):Int)),(7,.ptr 7 0)]++Xr f day part (fc f day) i,[(7,.box ((f.af.getD i default).cells.map .d))]⟩
def Fj (f:al) (i:Nat):Sk Bool :=
 .Be 12 0 f.af.length <| .br (decide (((i:Nat):Int) < ((f.af.length:Nat):Int))) (.r 3 (.p (bG ((i:Nat):Int) f.af.length)) fun _=>.fin true) (.fin false)
def ZX (f:al) (i:Nat):Sk Unit :=
 .Be 12 0 f.af.length <| .JV <| .r 5 .z fun _=>.wi 14 (au (((i:Nat):Int)+1)) ((i+1:Nat):Int) <| .fin ()
def Xs (f:al) (day part:Int) (i:Nat):bg Unit :=
 .wh ((((f.af.getD i default).kind == 2)&&((f.af.getD i default).part == part))&&decide ((f.af.getD i default).day≤day)) true (.aq (.t (E7 dB (fc f day))) (.o [.cast 37 (getM dB (fc f day) ((i:Nat):Int) false)]))
theorem uv (f:al) (day part:Int):UD Tryz.prog 146 [.ref f.cells,.ref [dI day],.ref [dI part]] ((bo f day part).map I5):=by
 refine UD.intro (T:=TT) Tryz.func146 rfl (by kernel_rfl) (Nat.le_of_ble_eq_true (by kernel_rfl)) (fun X=>?_)
 have hr4:cA (cB (cA Qf))=.region 4 Ss false:=by kernel_rfl
 have hrg:List.range' 22 (Ss.size - 22)=[22,23,24,25,26,27]:=by kernel_rfl
 have key:∀ d i,i+d=f.af.length→G (X.g TT Tryz.f146 (X.H (ue f day part i))) [.code Sr,.inLoop Sr,.inBlock 0] ⟨Xr f day part (fc f day) i,[]⟩:=by
  intro d
  induction d with
  | zero =>
   intro i hi
   refine sL.sk tok mixed Tryz.func146 _ (Fj f i) (fun b=>bif b then .go (.code (cA (cB (cA Qf))) :: Y8) (Sv f day part i []) else .go [] ⟨[],[]⟩) 100 (by kernel_rfl) ?_ ?_
   ·refine Sk.aX _ ?_
    simp only [Fj,Sk.kq,bg.p,bG,implies_true,and_true]
    intro h hd
    simp at hd
    omega
   ·intro a ha
    have:(Fj f i).val=false:=by simp only [Fj,Sk.val]; simp; omega
    rw [this] at ha
    subst ha
    refine (sL.ret Tryz.func146 (by kernel_rfl) (fun C h=>.inl ?_)).1
    have e:ue f day part i=((bo f day part).map I5).length:=by
     have:i=f.af.length:=by omega
     subst this
     simp [ue,bo]
    rw [← e]
    exact h
  | succ d ih =>
   intro i hi
   have eC:i < f.af.length:=by omega
   refine sL.sk tok mixed Tryz.func146 _ (Fj f i) (fun b=>bif b then .go (.code (cA (cB (cA Qf))) :: Y8) (Sv f day part i []) else .go [] ⟨[],[]⟩) 100 (by kernel_rfl) ?_ ?_
   ·refine Sk.aX _ ?_
    simp only [Fj,Sk.kq,bg.p,bG,implies_true,and_true]
    intro _ _
    omega
   ·intro a ha
    have:(Fj f i).val=true:=by simp only [Fj,Sk.val]; simp; omega
    rw [this] at ha
    subst ha
    show G _ _ _
    rw [hr4]
    -- behind Ol yield
    have next:∀ st,JR st ⟨(46,bv false) :: Xr f day part (fc f day) i,[]⟩→G (X.g TT Tryz.f146 (X.H (ue f day part (i+1)))) Y8 st:=by
     intro st kj
     refine .le kj ?_
     refine sL.sk tok mixed Tryz.func146 _ (ZX f i) (fun _=>.go [.inLoop Sr,.inBlock 0] ⟨Xr f day part (fc f day) (i+1),[]⟩) 100 (by kernel_rfl) ?_ (fun _ _=>.inLoop (ih (i+1) (by omega)))
     refine Sk.aX _ ?_
     simp only [ZX,Sk.kq,bg.z,maxLen,implies_true,and_true]
     intro h
     refine ⟨trivial,fun _ _ _=>?_⟩
     refine (aG ?_ ?_).trans ?_ <;> omega
    refine G.yr ?_
    refine YW.ael tok mixed (Xs f day part i) 22 (fun _=>Sv f day part i [(40,bv (Dm f day part i))]) (by kernel_rfl) (Nat.le_of_ble_eq_true (by kernel_rfl)) (fun _=>by kernel_rfl) ?_ ?_
    ·simp [Xs,bg.wh,bg.aq,bg.t,bg.o]
    rw [hrg]
    refine YW.aem (s:=40) (b:=Dm f day part i) rfl (Nat.le_of_ble_eq_true (by kernel_rfl)) ?_
    have Ca:=Qg f day part i
    cases he:Dm f day part i with
    | true =>
     rw [he,cond_true] at Ca
     refine YW.mvC (o:=Dn 22) (d:=41) (u:=0) (by kernel_rfl) (by kernel_rfl) (by kernel_rfl) (by simp) (by kernel_rfl) ?_
     refine YW.ZP tok mixed (o:=Dn 23) (Sv f day part i [(42,iv ((i:Nat):Int))]) (by kernel_rfl) (by kernel_rfl) (by kernel_rfl) ?_
     refine YW.ZP tok mixed (o:=Dn 24) (Sv f day part i [(43,av (f.af.getD i default).cells),(42,iv ((i:Nat):Int))]) (by kernel_rfl) (by kernel_rfl) (by kernel_rfl) ?_
     refine YW.ylC (o:=Dn 25) (d:=44) (u:=41) (n:=ue f day part i) (ts:=[42,43]) (c:={ callee:=.value (.tmp 41),args:=#[.tmp 42,.tmp 43],argTypes:=#[3,96] }) (by kernel_rfl) (by kernel_rfl) (by kernel_rfl) rfl (by simp) (by kernel_rfl) (Su f day part eC he) rfl (by kernel_rfl) (by kernel_rfl) ?_ ?_
     ·refine YW.ZP tok mixed (o:=Dn 26) (Sv f day part i [(45,bv false)]) (by kernel_rfl) (by kernel_rfl) (by kernel_rfl) ?_
      refine YW.WT (o:=Dn 27) (d:=46) (x:=.tmp 45) (y:=.const (.bool false)) false (by kernel_rfl) (by kernel_rfl) (by kernel_rfl) (by kernel_rfl) (by kernel_rfl) ?_
      refine YW.nil (T:=TT) (fn:=Tryz.f146) (by simp) ?_
      rw [← Ca]
      exact next _ (TB (by kernel_rfl))
     ·refine YW.ZP tok mixed (o:=Dn 26) (Sv f day part i [(45,bv true)]) (by kernel_rfl) (by kernel_rfl) (by kernel_rfl) ?_
      refine YW.WT (o:=Dn 27) (d:=46) (x:=.tmp 45) (y:=.const (.bool false)) true (by kernel_rfl) (by kernel_rfl) (by kernel_rfl) (by kernel_rfl) (by kernel_rfl) ?_
      refine YW.nil (T:=TT) (fn:=Tryz.f146) (by simp) ?_
      refine sL.sk tok mixed Tryz.func146 _ (.JU (.fin ()):Sk Unit) (fun _=>.go (.code .ret :: Y8.tail) ⟨[],[]⟩) 100 (by kernel_rfl) trivial (fun _ _=>(sL.ret Tryz.func146 (by kernel_rfl) (fun C h=>.inr h)).2 _)
    | false =>
     rw [he,cond_false] at Ca
     refine YW.Pv (o:=Dn 22) (d:=41) (by kernel_rfl) (by kernel_rfl) (by kernel_rfl) ?_
     refine YW.Pv (o:=Dn 23) (d:=42) (by kernel_rfl) (by kernel_rfl) (by kernel_rfl) ?_
     refine YW.Pv (o:=Dn 24) (d:=43) (by kernel_rfl) (by kernel_rfl) (by kernel_rfl) ?_
     refine YW.Pv (o:=Dn 25) (d:=44) (by kernel_rfl) (by kernel_rfl) (by kernel_rfl) ?_
     refine YW.Pv (o:=Dn 26) (d:=45) (by kernel_rfl) (by kernel_rfl) (by kernel_rfl) ?_
     refine YW.WT (o:=Dn 27) (d:=46) (x:=.tmp 45) (y:=.const (.bool false)) false (by kernel_rfl) (by kernel_rfl) (by kernel_rfl) (by kernel_rfl) (by kernel_rfl) ?_
     refine YW.nil (T:=TT) (fn:=Tryz.f146) (by simp) ?_
     rw [← Ca]
     exact next _ (TB (by kernel_rfl))
 refine sL.sk tok mixed Tryz.func146 _ (.r 0 ((pR f day).c) fun m=>.r 1 .z fun _=>.fin m:Sk (List (Int × Bool))) (fun m=>.go [.code (.loop Sr),.inBlock 0] ⟨Xr f day part m 0,[]⟩) 100 (by kernel_rfl) ?_ (fun m hm=>?_)
 ·refine Sk.aX _ ?_
  simp [Sk.kq,bg.z,gn.c,kk,kp,pR]
 ·have hm:m=fc f day:=hm
  subst hm
  exact .WU (key f.af.length 0 (by omega))
def fY (f:al) (day part:Int):ItC (Int × Sign):=⟨Tryz.prog,146,[.ref f.cells,.ref [dI day],.ref [dI part]],bo f day part,I5,True,fun _=>uv f day part⟩
end
section
open Go Go.Av
def pT (before:Int) (flags:Int):Sk (Int) :=
 .br (((dP .i64 flags 2) != 0)||(before != 0))
 (.fin 1)
 (.br ((dP .i64 flags 4) != 0)
 (.fin 2)
 (.fin 0))
def zE before flags:=(pT before flags).val
theorem I6 (before:Int) (flags:Int):(pT before flags).bz (fun _=>True):=by
  unfold pT
  exact pv

def rj before flags:=kk tok mixed Tryz.func108 [iv before,iv flags] (fun x=>iv x) true (pT before flags) (zE before flags) (u0 (I6 before flags))
theorem Qh (f:al) (day part:Int):(bo f day part).length≤f.af.length:=by
  unfold bo
  rw [List.length_map]
  exact Nat.le_trans (List.length_filter_le _ _) (by simp)
theorem I7 {f:al} {day part:Int} {i:Nat} {y:Int × Sign} (h:(bo f day part)[i]? = some y):i < f.af.length∧0≤y.1∧y.1 < f.af.length∧y.2=f.af.getD y.1.toNat default∧y.2.kind=2∧y.2.part=part∧y.2.day≤day∧Cy (fc f day) y.1 false=false:=by
  have h1:=(List.getElem?_eq_some_iff.1 h).1
  have h2:=List.mem_of_getElem? h
  have h3:=Qh f day part
  unfold bo at h2
  obtain ⟨q,hq,rfl⟩:=List.mem_map.1 h2
  rw [List.mem_filter,List.mem_range] at hq
  obtain ⟨hq1,hq2⟩:=hq
  unfold Dm at hq2
  simp only [Bool.and_eq_true,beq_iff_eq,decide_eq_true_eq,Bool.not_eq_true'] at hq2
  exact ⟨by omega,by omega,by omega,rfl,hq2.1.1.1,hq2.1.1.2,hq2.1.2,hq2.2⟩
def kd (f:al) (part:Int) (day:Int):Sk (I4) :=
 .r 2 ((jQ f day).c) fun x1 =>
 .r 3 ((jr f part day).c) fun _ =>
 .rf (fY f day part) (fun ki3 i3=>i3.1.length≤ki3∧i3.2.2.2.2.length≤ki3∧∀ y,y∈i3.1→0≤y∧y < (f.af.length:Int)∧(f.af.getD y.toNat default).day≤day) (fun e5=>e5.1.length≤f.af.length∧∀ y,y∈e5.1→0≤y∧y < (f.af.length:Int)∧(f.af.getD y.toNat default).day≤day) 0 (([],f.aR.kr,f.aR.kr == (-1),0,[]):(List Int) × Int × Bool × Int × (List Int))
 (fun (i3:(List Int) × Int × Bool × Int × (List Int))=>[(100000,bO 3 1 bU i3.1),(100001,bO 3 1 bU i3.2.2.2.2),(7,.box ([ow 100000 i3.1]++[iv i3.2.1,iv (-1),bv i3.2.2.1,iv i3.2.2.2.1,ow 100001 i3.2.2.2.2]))]) (fun (e5:(List Int) × Int × Int × Bool × Int × (List Int))=>[(100002,bO 3 1 bU e5.1),(100003,bO 3 1 bU e5.2.2.2.2.2),(7,.box ([ow 100002 e5.1]++[iv e5.2.1,iv e5.2.2.1,bv e5.2.2.2.1,iv e5.2.2.2.2.1,ow 100003 e5.2.2.2.2.2]))])
 (fun i3 y4 =>
 .br ((!i3.2.2.1)&&(y4.2.dt != i3.2.1))
 (.fin (.inl (i3.1,i3.2.1,y4.1,i3.2.2.1,i3.2.2.2.1,i3.2.2.2.2)))
 (.r 8 (.aq (.o [.fU (gB eA [y4.1])]) (.aq (.o [.fU (og eA i3.1 [y4.1])]) (.aq (.t (eA.qc [y4.1])) (.p (ym i3.1.length [y4.1].length 8))))) fun _ =>
 .r 9 ((rj i3.2.2.2.1 y4.2.flags).c) fun x6 =>
 .br (x1.2&&(decide (y4.2.day > x1.1)))
 (.r 11 (.aq (.o [.fU (gB eA [y4.1])]) (.aq (.o [.fU (og eA i3.2.2.2.2 [y4.1])]) (.aq (.t (eA.qc [y4.1])) (.p (ym i3.2.2.2.2.length [y4.1].length 8))))) fun _ =>
 .fin (.inr (i3.1++[y4.1],y4.2.cj,y4.2.cj == (-1),x6,i3.2.2.2.2++[y4.1])))
 (.fin (.inr (i3.1++[y4.1],y4.2.cj,y4.2.cj == (-1),x6,i3.2.2.2.2))))) fun r=>match r with
 | .inl e5=>(.fin ({ af:=e5.1,jE:=e5.2.1,broken:=e5.2.2.1,Sq:=e5.2.2.2.1,Xq:=e5.2.2.2.2.1,late:=e5.2.2.2.2.2 }:I4))
 | .inr j7=>(.fin ({ af:=j7.1,jE:=j7.2.1,broken:=(-1),Sq:=j7.2.2.1,Xq:=j7.2.2.2.1,late:=j7.2.2.2.2 }:I4))
def ky f part day:=(kd f part day).val
theorem Gf (f:al) (part:Int) (day:Int):(kd f part day).cZ (fun (x:I4)=>x.af.length≤f.af.length∧∀ y,y∈x.af→0≤y∧y < (f.af.length:Int)∧(f.af.getD y.toNat default).day≤day):=by
  refine Sk.bp _ ?_
  unfold kd
  simp only [Sk.cV,Sk.aO,reduceCtorEq,ON,kk,kp,jQ,jr,rj,fY,Sum.forall,qh,forall_eq,maxLen]
  refine fun _=>⟨⟨by simp,by simp,fun y h=>by cases h⟩,fun i s y hs hy=>?_,fun a ha=>ha,fun b hb=>⟨Nat.le_trans hb.1 (Qh _ _ _),hb.2.2⟩⟩
  have hm:=I7 hy
  have Ce:∀ z,z∈s.1++[y.1]→0≤z∧z < (f.af.length:Int)∧(f.af.getD z.toNat default).day≤day:=fun z hz=>by
    rcases List.mem_append.1 hz with h | h
    · exact hs.2.2 z h
    · simp only [List.mem_singleton] at h
      subst h
      exact ⟨hm.2.1,hm.2.2.1,by rw [← hm.2.2.2.1]; exact hm.2.2.2.2.2.2.1⟩
  have hl1:(s.1++[y.1]).length=s.1.length+1:=by simp
  have hl2:(s.2.2.2.2++[y.1]).length=s.2.2.2.2.length+1:=by simp
  have hl3:[y.1].length=1:=rfl
  rw [hl1,hl2]
  exact ⟨fun _=>⟨by omega,hs.2.2⟩,fun _ _=>⟨fun _ _=>⟨by omega,by omega,Ce⟩,fun _=>⟨by omega,by omega,Ce⟩⟩⟩

theorem I8 (f:al) (part:Int) (day:Int) (hf:f.Small):(kd f part day).bz (fun _=>True):=by
  refine Sk.aX _ ?_
  unfold kd
  simp only [Sk.kq,Sk.aO,reduceCtorEq,ON,kk,kp,Sk.cV,jQ,jr,rj,fY,Sum.forall,qh,forall_eq,maxLen]
  refine fun _=>⟨⟨by simp,by simp,fun y h=>by cases h⟩,fun i s y hs hy=>?_⟩
  have hm:=I7 hy
  have Ce:∀ z,z∈s.1++[y.1]→0≤z∧z < (f.af.length:Int)∧(f.af.getD z.toNat default).day≤day:=fun z hz=>by
    rcases List.mem_append.1 hz with h | h
    · exact hs.2.2 z h
    · simp only [List.mem_singleton] at h
      subst h
      exact ⟨hm.2.1,hm.2.2.1,by rw [← hm.2.2.2.1]; exact hm.2.2.2.2.2.2.1⟩
  have hl1:(s.1++[y.1]).length=s.1.length+1:=by simp
  have hl2:(s.2.2.2.2++[y.1]).length=s.2.2.2.2.length+1:=by simp
  have hl3:[y.1].length=1:=rfl
  rw [hl1,hl2,hl3]
  have hf1:=hf.1
  exact ⟨⟨fun _=>⟨by omega,hs.2.2⟩,fun _ _=>⟨fun _ _=>⟨by omega,by omega,Ce⟩,fun _=>⟨by omega,by omega,Ce⟩⟩⟩,fun _=>⟨by omega,hs.2.2⟩,fun _=>⟨⟨by omega,by omega⟩,fun _=>⟨fun _=>⟨⟨by omega,by omega⟩,fun _=>⟨by omega,by omega,Ce⟩⟩,fun _=>⟨by omega,by omega,Ce⟩⟩⟩⟩

def vr f part day:=kp tok mixed Tryz.func56 [av f.cells,iv part,iv day] (fun x=>av x.cells) false (ky f part day) (I8 f part day) (Gf f part day)
def js (v:View) (part:Int):Sk ((List Int)) :=
 .r 1 ((vr v.all part v.day).c) fun x1 =>
 .fin x1.af
def aj v part:=(js v part).val
theorem uf (v:View) (part:Int):(js v part).cZ (fun (x:(List Int))=>x.length≤v.all.af.length∧∀ y,y∈x→0≤y∧y < (v.all.af.length:Int)∧(v.all.af.getD y.toNat default).day≤v.day):=by
  unfold js
  try simp only [vr]
  exact DE

theorem nd (v:View) (part:Int):(fun (x:(List Int))=>x.length≤v.all.af.length∧∀ y,y∈x→0≤y∧y < (v.all.af.length:Int)∧(v.all.af.getD y.toNat default).day≤v.day) (aj v part):=have h:=Sk.de _ (uf v part); h
theorem Dp (v:View) (part:Int) (X8:v.all.Small):(js v part).bz (fun _=>True):=by
  unfold js
  try simp only [vr]
  exact oj

def qI v part:=kp tok mixed Tryz.func25 [av v.cells,iv part] (fun x=>lv bU x) false (aj v part) (Dp v part) (uf v part)
def jR (c_:eu) (links:List Int):Sk (Unit) :=
 .fin ()
def wx c_ links:=(jR c_ links).val
theorem AK (c_:eu) (links:List Int):wx c_ links=():=rfl
theorem AL (c_:eu) (links:List Int):(jR c_ links).bz (fun _=>True):=by
  unfold jR
  exact pv

def ug c_ links:=kk tok mixed Tryz.func26 [av c_.cells,lv bU links] (fun x=>.fn 57 [.ref c_.cells,.ref [mW bU links]]) false (jR c_ links) (wx c_ links) (u0 (AL c_ links))
structure ke where
  fA:Int
  sign:Int
  state:Int
  deriving Inhabited
def ke.cells (c:ke):List D:=[dI c.fA,dI c.sign,dI c.state]
def jS (x_:Fact) (v:Int) (v':Int):Sk (Bool) :=
 .fin ((x_.kind == v)&&(x_.at_ == v'))
def cL x_ v v':=(jS x_ v v').val
theorem jT (x_:Fact) (v:Int) (v':Int):cL x_ v v'=((x_.kind == v)&&(x_.at_ == v')):=rfl
theorem AM (x_:Fact) (v:Int) (v':Int):(jS x_ v v').bz (fun _=>True):=by
  unfold jS
  exact pv

def ov x_ v v':=kk tok mixed Tryz.func148 [av x_.cells,.ref [dI v],.ref [dI v']] (fun x=>bv x) true (jS x_ v v') (cL x_ v v') (u0 (AM x_ v v'))
def eJ (s:List Fact) (v:Int) (v':Int):Sk (Int) :=
 .bind true (fun b1=>∀ q,q < s.length→cL (s.getD q default) v v'=false)
 (.loop (default:Sum (Int) (Unit)) (fun i2=>∀ q,q < i2→cL (s.getD q default) v v'=false) (fun i2=>s.length - i2) (0:Nat)
 (fun (i2:Nat)=>⟨[(8,iv ((i2:Nat):Int))],[]⟩) fun i2 =>
 .lt 0 0 i2 s.length
 (.r 4 (.aq (.p (bG ((i2:Nat):Int) s.length)) ((ov (s.getD i2 default) v v').c)) fun x3 =>
 .br x3
 (.fin (.inl (.inl ((i2:Nat):Int))))
 (.nx 6 8 i2 (i2+1)))
 (.fin (.inl (.inr ()))))
 (fun (_:Unit)=>⟨[],[]⟩) fun _ =>
 .fin (-1)
def jt s v v':=(eJ s v v').val
theorem nE (s:List Fact) (v:Int) (v':Int):(eJ s v v').cZ (fun (x:Int)=>(x = -1∧∀ q,q < s.length→cL (s.getD q default) v v'=false)∨(0≤x∧x < s.length∧cL (s.getD x.toNat default) v v'=true∧∀ q,(q:Nat) < x.toNat→cL (s.getD q default) v v'=false)):=by
  unfold eJ
  try simp only [ov,jT]
  exact RW

theorem uw (s:List Fact) (v:Int) (v':Int):(fun (x:Int)=>(x = -1∧∀ q,q < s.length→cL (s.getD q default) v v'=false)∨(0≤x∧x < s.length∧cL (s.getD x.toNat default) v v'=true∧∀ q,(q:Nat) < x.toNat→cL (s.getD q default) v v'=false)) (jt s v v'):=have h:=Sk.de _ (nE s v v'); h
theorem wy (s:List Fact) (v:Int) (v':Int):(eJ s v v').bz (fun _=>True):=by
  unfold eJ
  try simp only [ov,jT]
  exact yn

def pU s v v':=kp tok mixed Tryz.func147 [lv Fact.cells s,.fn 148 [.ref [dI v],.ref [dI v']]] (fun x=>iv x) true (jt s v v') (u0 (wy s v v')) (nE s v v')
def mO (v:View) (kind:Int) (sign:Int):Sk (Int) :=
 .r 1 ((pU v.now.facts kind sign).c) fun x1 =>
 .br (decide (x1 < 0))
 (.fin 2)
 (.r 4 (.p (bG x1 v.now.facts.length)) fun _ =>
 .br (((v.now.facts.getD x1.toNat default).n) == 0)
 (.fin 0)
 (.fin 1))
def jH v kind sign:=(mO v kind sign).val
theorem EF (v:View) (kind:Int) (sign:Int):(mO v kind sign).bz (fun _=>True):=by
  unfold mO
  try simp only [pU]
  exact oj

def sm v kind sign:=kk tok mixed Tryz.func109 [av v.cells,iv kind,iv sign] (fun x=>iv x) true (mO v kind sign) (jH v kind sign) (u0 (EF v kind sign))
def uX (a:Int) (b:Int):Sk (Int) :=
 .br ((a == 0)||(b == 0))
 (.fin 0)
 (.br ((a == 2)||(b == 2))
 (.fin 2)
 (.fin 1))
def eK a b:=(uX a b).val
theorem Qi (a:Int) (b:Int):(uX a b).bz (fun _=>True):=by
  unfold uX
  exact pv

def qJ a b:=kk tok mixed Tryz.func62 [iv a,iv b] (fun x=>iv x) true (uX a b) (eK a b) (u0 (Qi a b))
def rk (a:Int) (b:Int):Sk (Int) :=
 .br ((a == 1)||(b == 1))
 (.fin 1)
 (.br ((a == 2)||(b == 2))
 (.fin 2)
 (.fin 0))
def qK a b:=(rk a b).val
theorem KR (a:Int) (b:Int):(rk a b).bz (fun _=>True):=by
  unfold rk
  exact pv

def Dq a b:=kk tok mixed Tryz.func110 [iv a,iv b] (fun x=>iv x) true (rk a b) (qK a b) (u0 (KR a b))
def jU (c_:eu) (link:Int) (last:Int):Sk (Int) :=
 .r 2 (.dep ((sm c_.view 0 link).c) fun x1=>.dep ((sm c_.view 2 link).c) fun x2=>(qJ x1 x2).c) fun p8 =>
 .r 3 (.dep ((gS c_.r c_.forum 3 ({ file:=c_.view.now,sign:=link,jE:=last,jO:=(-1),due:=c_.due,day:=c_.view.day }:fw)).c) fun x4=>.dep ((fp x4).c) fun x5=>(Dq p8.2.2 x5).c) fun p7 =>
 .fin p7.2.2
def bj c_ link last:=(jU c_ link last).val
theorem AN (c_:eu) (link:Int) (last:Int) (Rb:c_.view.now.Small) (Qj:c_.r.cG) (Ni:c_.r.Small):(jU c_ link last).bz (fun _=>True):=by
  unfold jU
  try simp only [gS,fp,qJ,Dq,sm]
  exact oj

def uh c_ link last:=kk tok mixed Tryz.func58 [av c_.cells,iv link,iv last] (fun x=>iv x) true (jU c_ link last) (bj c_ link last) (u3 (AN c_ link last))
end
section
open Go Go.Av
def dG (c:eu) (last:Int):List Int→ke→List ke
 | [],o=>[o]
 | l :: r,o=>bif bj c l last == 0 then [o] else bif bj c l last == 2 then { o with state:=2 } :: dG c last r { fA:=(c.view.now.af.getD l.toNat default).cj,sign:=l,state:=2 } else dG c last r { o with fA:=(c.view.now.af.getD l.toNat default).cj,sign:=l }
def sZ (links:List Int):Int:=links.getD (au (((links.length:Nat):Int) - 1)).toNat default
def bn (c:eu) (links:List Int):List ke:=dG c (sZ links) links { fA:=c.view.now.aR.kr,sign:=-1,state:=1 }
def I9 (y:ke):List AV:=[av y.cells]
def Pc:Code:=Tryz.f57.body.getD .skip
def acB:Code:=cB (cA (cB Pc))
def Sw:Code:=cA (cA acB)
def zF:Code:=cB (cB Pc)
def acC:Code:=cA (cA (cB (cB Sw)))
def aaY:Code:=cB (cB (cB Sw))
def ZY:Code:=cB (cB (cB acC))
def Qk:Code:=cB ZY
def ZZ:Code:=cA (cB (cA ZY))
def Xt:Code:=cA (cB ZZ)
def acD:Code:=cB (cB ZZ)
def xB:Array Oper:=opsOf Xt
def zG:Array Oper:=opsOf zF
def Ql:List Item:=[.inBlock 1,.code aaY,.inLoop Sw,.inBlock 0,.code zF]
def KS (c:eu) (links:List Int) (i:Nat) (o:ke) (sl:List (Nat × AV)):St:=⟨sl++[(1,.ref c.cells),(2,.ref [mW bU links]),(4,.ptr 4 0),(14,lv bU links),(15,iv ((links.length:Nat):Int)),(16,iv ((i:Nat):Int))],[(4,.box (o.cells.map .d))]⟩
def Xu (c:eu) (links:List Int) (i:Nat) (s:Int):ke:={ fA:=(c.view.now.af.getD (links.getD i default).toNat default).cj,sign:=links.getD i default,state:=s }
def Fk (c:eu) (links:List Int) (i:Nat):Sk (Option Bool) :=
 .Be 14 0 links.length <|
 .br (decide (((i:Nat):Int) < ((links.length:Nat):Int)))
  (.r 3 (.p (bG ((i:Nat):Int) links.length)) fun _ =>
   .r 4 (.aq (.p (bG (au (((links.length:Nat):Int) - 1)) links.length)) ((uh c (links.getD i default) (sZ links)).c)) fun x =>
   .br (x == 0) (.fin none) (.br (x == 2) (.r 7 .z fun _=>.fin (some true)) (.fin (some false))))
  (.fin none)
def Z0 (c:eu) (links:List Int) (i:Nat):Sk Unit :=
 .Be 14 0 links.length <| .r 9 (.p (bG (links.getD i default) c.view.now.af.length)) fun _=>.r 10 .z fun _=>.wi 16 (au (((i:Nat):Int)+1)) ((i+1:Nat):Int) <| .fin ()
def Sx (c:eu) (links:List Int):Prop:=links.length≤1000000∧(∀ i,i < links.length→0≤links.getD i default∧links.getD i default < c.view.now.af.length)∧∀ i,i < links.length→(uh c (links.getD i default) (sZ links)).pre
def Z2 (c:eu) (links:List Int) (i:Nat) (o:ke):Option Bool→WG
 | none=>.go [.code zF] ⟨[(4,.ptr 4 0)],[(4,.box (o.cells.map .d))]⟩
 | some true=>.go (.code Xt :: .code acD :: .code Qk :: Ql) (KS c links i { o with state:=2 } [(6,iv (links.getD i default))])
 | some false=>.go (.code Qk :: Ql) (KS c links i o [(6,iv (links.getD i default))])
theorem wz (c:eu) (links:List Int) (hp:Sx c links):UD Tryz.prog 57 [.ref c.cells,.ref [mW bU links]] ((bn c links).map I9):=by
 refine UD.intro (T:=TT) Tryz.func57 rfl (by kernel_rfl) (Nat.le_of_ble_eq_true (by kernel_rfl)) (fun X=>?_)
 have hr8:Xt=.region 8 xB false:=by kernel_rfl
 have aes:zF=.region 11 zG false:=by kernel_rfl
 have hg8:List.range xB.size=[0,1,2,3]:=by kernel_rfl
 have aet:List.range zG.size=[0,1,2]:=by kernel_rfl
 have hys:∀ k o pre r,bn c links=pre++o :: r→pre.length=k→((bn c links).map I9)[k]? = some (I9 o):=fun k o pre r h hk=>by
  rw [h]; subst hk; simp
 have fin:∀ k o pre,bn c links=pre++[o]→pre.length=k→G (X.g TT Tryz.f57 (X.H k)) [.code zF] ⟨[(4,.ptr 4 0)],[(4,.box (o.cells.map .d))]⟩:=by
  intro k o pre h hk
  rw [aes]
  refine G.yr ?_
  rw [aet]
  refine YW.mvC (o:=zG.getD 0 default) (d:=50) (u:=0) (by kernel_rfl) (by kernel_rfl) (by kernel_rfl) (by simp) (by kernel_rfl) ?_
  refine YW.ZP tok mixed (o:=zG.getD 1 default) ⟨[(51,av o.cells),(4,.ptr 4 0)],[(4,.box (o.cells.map .d))]⟩ (by kernel_rfl) (by kernel_rfl) (by kernel_rfl) ?_
  refine YW.ylC (o:=zG.getD 2 default) (d:=52) (u:=50) (n:=k) (ts:=[51]) (c:={ callee:=.value (.tmp 50),args:=#[.tmp 51],argTypes:=#[93] }) (by kernel_rfl) (by kernel_rfl) (by kernel_rfl) rfl (by simp) (by kernel_rfl) (hys k o pre [] h hk) rfl (by kernel_rfl) (by kernel_rfl) ?_ ?_
  ·refine YW.nil (T:=TT) (fn:=Tryz.f57) (by simp) (sL.ret Tryz.func57 (by kernel_rfl) (fun C h'=>.inl ?_)).1
   have:((bn c links).map I9).length=k+1:=by rw [h]; simp [hk]
   rw [this]
   exact h'
  ·exact YW.nil (T:=TT) (fn:=Tryz.f57) (by simp) (sL.ret Tryz.func57 (by kernel_rfl) (fun C h'=>.inr h')).1
 have key:∀ d i,i+d=links.length→∀ k o pre,bn c links=pre++dG c (sZ links) (links.drop i) o→pre.length=k→G (X.g TT Tryz.f57 (X.H k)) [.code Sw,.inLoop Sw,.inBlock 0,.code zF] (KS c links i o []):=by
  intro d
  induction d with
  | zero =>
   intro i hi k o pre h hk
   refine sL.sk tok mixed Tryz.func57 _ (Fk c links i) (Z2 c links i o) 100 (by kernel_rfl) ?_ ?_
   ·refine Sk.aX _ ?_
    simp only [Fk,Sk.kq]
    refine fun _=>⟨fun hd=>?_,fun _=>trivial⟩
    simp at hd
    omega
   ·intro a ha
    have:(Fk c links i).val=none:=by
     have e:decide (((i:Nat):Int) < ((links.length:Nat):Int))=false:=decide_eq_false (by omega)
     simp only [Fk,Sk.val,e,cond_false]
    rw [this] at ha
    subst ha
    refine fin k o pre ?_ hk
    rw [h,List.drop_of_length_le (by omega)]
    rfl
  | succ d ih =>
   intro i hi k o pre h hk
   have eC:i < links.length:=by omega
   have Td:links.drop i=links.getD i default :: links.drop (i+1):=by
    rw [List.drop_eq_getElem_cons eC]
    simp [List.getD,eC]
   have next:∀ k' o' Y9 st,JR st (KS c links i o' [(6,iv (links.getD i default))])→bn c links=Y9++dG c (sZ links) (links.drop (i+1)) (Xu c links i o'.state)→Y9.length=k'→G (X.g TT Tryz.f57 (X.H k')) (.code Qk :: Ql) st:=by
    intro k' o' Y9 st kj h' fW
    refine .le kj ?_
    refine sL.sk tok mixed Tryz.func57 _ (Z0 c links i) (fun _=>.go [.inLoop Sw,.inBlock 0,.code zF] (KS c links (i+1) (Xu c links i o'.state) [])) 100 (by kernel_rfl) ?_ (fun _ _=>.inLoop (ih (i+1) (by omega) k' _ Y9 h' fW))
    refine Sk.aX _ ?_
    simp only [Z0,Sk.kq,bg.z,bg.p,bG,maxLen]
    have q1:=hp.2.1 i eC
    have q2:=hp.1
    refine fun _=>⟨by omega,fun _ _ _=>⟨trivial,fun _ _ _=>⟨?_,trivial⟩⟩⟩
    refine (aG ?_ ?_).trans ?_ <;> omega
   refine sL.sk tok mixed Tryz.func57 _ (Fk c links i) (Z2 c links i o) 100 (by kernel_rfl) ?_ ?_
   ·refine Sk.aX _ ?_
    have q2:=hp.1
    have q3:=hp.2.2 i eC
    have e:au (((links.length:Nat):Int) - 1)=((links.length:Nat):Int) - 1:=aG (by omega) (by omega)
    simp only [Fk,Sk.kq,bg.p,bg.z,bg.aq,gn.c,kk,kp,bG,maxLen,e,implies_true,true_and,and_true,and_self]
    exact fun _ _=>⟨by omega,fun _ _ _=>⟨by omega,q3⟩⟩
   ·intro a ha
    have hv:(Fk c links i).val=bif bj c (links.getD i default) (sZ links) == 0 then none else bif bj c (links.getD i default) (sZ links) == 2 then some true else some false:=by
     have e:decide (((i:Nat):Int) < ((links.length:Nat):Int))=true:=decide_eq_true (by omega)
     simp only [Fk,Sk.val,e,cond_true]
     rfl
    rw [hv] at ha
    rw [Td] at h
    simp only [dG] at h
    cases h0:bj c (links.getD i default) (sZ links) == 0 with
    | true =>
     rw [h0,cond_true] at ha h
     subst ha
     exact fin k o pre h hk
    | false =>
     rw [h0,cond_false] at ha h
     cases h2:bj c (links.getD i default) (sZ links) == 2 with
     | true =>
      rw [h2,cond_true] at ha h
      subst ha
      show G _ _ _
      rw [hr8]
      refine G.yr ?_
      rw [hg8]
      refine YW.mvC (o:=xB.getD 0 default) (d:=34) (u:=0) (by kernel_rfl) (by kernel_rfl) (by kernel_rfl) (by simp) (by kernel_rfl) ?_
      refine YW.ZP tok mixed (o:=xB.getD 1 default) (KS c links i { o with state:=2 } [(35,av ({ o with state:=2 }:ke).cells),(6,iv (links.getD i default))]) (by kernel_rfl) (by kernel_rfl) (by kernel_rfl) ?_
      refine YW.ylC (o:=xB.getD 2 default) (d:=36) (u:=34) (n:=k) (ts:=[35]) (c:={ callee:=.value (.tmp 34),args:=#[.tmp 35],argTypes:=#[93] }) (by kernel_rfl) (by kernel_rfl) (by kernel_rfl) rfl (by simp) (by kernel_rfl) (hys k _ pre _ h hk) rfl (by kernel_rfl) (by kernel_rfl) ?_ ?_
      ·refine YW.ZP tok mixed (o:=xB.getD 3 default) (KS c links i { o with state:=2 } [(37,bv false),(6,iv (links.getD i default))]) (by kernel_rfl) (by kernel_rfl) (by kernel_rfl) ?_
       refine YW.nil (T:=TT) (fn:=Tryz.f57) (by simp) ?_
       refine sL.sk tok mixed Tryz.func57 _ (.JV (.fin ()):Sk Unit) (fun _=>.go (.code Qk :: Ql) (KS c links i { o with state:=2 } [(6,iv (links.getD i default))])) 100 (by kernel_rfl) trivial (fun _ _=>next (k+1) { o with state:=2 } (pre++[{ o with state:=2 }]) _ (fun _ _ _ h=>h) (by rw [h]; simp [Xu]) (by simp [hk]))
      ·refine YW.ZP tok mixed (o:=xB.getD 3 default) (KS c links i { o with state:=2 } [(37,bv true),(6,iv (links.getD i default))]) (by kernel_rfl) (by kernel_rfl) (by kernel_rfl) ?_
       refine YW.nil (T:=TT) (fn:=Tryz.f57) (by simp) ?_
       refine sL.sk tok mixed Tryz.func57 _ (.JU (.fin ()):Sk Unit) (fun _=>.go (.code .ret :: .code Qk :: Ql) ⟨[],[]⟩) 100 (by kernel_rfl) trivial (fun _ _=>(sL.ret Tryz.func57 (by kernel_rfl) (fun C h=>.inr h)).2 _)
     | false =>
      rw [h2,cond_false] at ha h
      subst ha
      exact next k o pre _ (fun _ _ _ h=>h) h hk
 refine sL.sk tok mixed Tryz.func57 _ (.r 0 .z fun _=>.r 1 .z fun _=>.fin ():Sk Unit) (fun _=>.go [.code (.loop Sw),.inBlock 0,.code zF] (KS c links 0 { fA:=c.view.now.aR.kr,sign:=-1,state:=1 } [])) 100 (by kernel_rfl) ?_ (fun _ _=>.WU (key links.length 0 (by omega) 0 _ [] rfl rfl))
 refine Sk.aX _ ?_
 simp [Sk.kq,bg.z]
def kJ (c:eu) (links:List Int):ItC ke:=⟨Tryz.prog,57,[.ref c.cells,.ref [mW bU links]],bn c links,I9,Sx c links,fun h=>wz c links h⟩
end
section
open Go Go.Av
def mP (v:View) (sign:Int):Sk (Int) :=
 .r 1 (.p (bG sign v.now.af.length)) fun _ =>
 .r 2 (.wh (sign == 0) false ((aJ v.lead ((v.now.af.getD sign.toNat default).part)).c)) fun x1 =>
 .br ((sign == 0)||(!x1))
 (.r 3 (.p (bG (0:Int) v.lead.length)) fun _ =>
 .fin (v.lead.getD 0 default))
 (.fin ((v.now.af.getD sign.toNat default).part))
def eV v sign:=(mP v sign).val
theorem EG (v:View) (sign:Int) (hs:0≤sign∧sign < v.now.af.length) (hl:v.lead.length≠0):(mP v sign).bz (fun _=>True):=by
 unfold mP
 try simp only [aJ]
 exact oj
def nY v sign:=kk tok mixed Tryz.func60 [av v.cells,iv sign] (fun x=>iv x) true (mP v sign) (eV v sign) (u2 (EG v sign))
def fS (v:View) (part:Int) (cz:Int) (links:List Int):Sk ((List Int)) :=
 .r 2 (.wh (cz != (-1)) true ((aJ links cz).c)) fun x1 =>
 .br ((cz != (-1))&&(!x1))
 (.fin [])
 (.bind true (fun b2=>b2.length≤v.now.af.length∧∀ y,y∈b2→0≤y∧y < (v.now.af.length:Int))
 (.loop (default:Sum ((List Int)) ((List Int))) (fun i3=>i3.2≤v.now.af.length∧i3.1.length≤i3.2∧∀ y,y∈i3.1→0≤y∧y < (v.now.af.length:Int)) (fun i3=>v.now.af.length - i3.2) (([],0):(List Int) × Nat)
 (fun (i3:(List Int) × Nat)=>⟨[(9,ow 100002 i3.1),(25,iv (i3.2:Int))],[(100002,bO 3 1 bU i3.1)]⟩) fun i3 =>
 .lt 23 0 i3.2 v.now.af.length
 (.r 6 (.p (bG (i3.2:Int) v.now.af.length)) fun _ =>
 .r 7 ((nY v (i3.2:Int)).c) fun x4 =>
 .br (x4 != part)
 (.nx 18 25 i3.2 (i3.1,i3.2+1))
 (.bt
 (.bind false (fun _=>True)
 (.br (((v.now.af.getD i3.2 default).kind) == 0)
 (.fin (.inr (((v.now.af.getD i3.2 default).kind) == 0)))
 (.fin (.inr (((v.now.af.getD i3.2 default).kind) == 1))))
 (fun (b6:Bool)=>⟨[(41,bv b6)],[]⟩) fun b6 =>
 .br b6
 (.fin (.inr (true,b6,((v.now.af.getD i3.2 default).kind) == 0)))
 (.br (((v.now.af.getD i3.2 default).kind) == 2)
 (.r 15 (.wh ((decide ((i3.2:Int)≤cz))&&((dP .i64 ((v.now.af.getD i3.2 default).flags) 2) == 0)) true ((aJ links (i3.2:Int)).c)) fun x7 =>
 .fin (.inr (((decide ((i3.2:Int)≤cz))&&((dP .i64 ((v.now.af.getD i3.2 default).flags) 2) == 0))&&x7,b6,((v.now.af.getD i3.2 default).kind) == 0)))
 (.r 10 ((aJ i3.1 ((v.now.af.getD i3.2 default).for_)).c) fun x8 =>
 .fin (.inr (x8,b6,((v.now.af.getD i3.2 default).kind) == 0)))))
 (fun (b5:Bool × Bool × Bool)=>⟨[(12,bv b5.1),(41,bv b5.2.1),(42,bv b5.2.2)],[]⟩) fun b5 =>
 .br b5.1
 (.r 17 (.aq (.o [.fU (gB eA [(i3.2:Int)])]) (.aq (.o [.fU (og eA i3.1 [(i3.2:Int)])]) (.aq (.t (eA.qc [(i3.2:Int)])) (.p (ym i3.1.length [(i3.2:Int)].length 8))))) fun _ =>
 .r 18 .z fun _ =>
 .wi 25 (au ((i3.2:Int)+1)) ((i3.2+1:Nat):Int) <|
 .fin (.inr (i3.1++[(i3.2:Int)],i3.2+1)))
 (.nx 18 25 i3.2 (i3.1,i3.2+1))))
 (.fin (.inl (.inr i3.1))))
 (fun (b2:(List Int))=>⟨[(9,ow 100001 b2)],[(100001,bO 3 1 bU b2)]⟩) fun b2 =>
 .fin b2)
def aZ v part cz links:=(fS v part cz links).val
theorem sD (v:View) (part:Int) (cz:Int) (links:List Int):(fS v part cz links).cZ (fun (x:(List Int))=>x.length≤v.now.af.length∧∀ y,y∈x→0≤y∧y < (v.now.af.length:Int)):=by
 unfold fS
 try simp only [nY,aJ]
 exact DE
theorem rS (v:View) (part:Int) (cz:Int) (links:List Int):(fun (x:(List Int))=>x.length≤v.now.af.length∧∀ y,y∈x→0≤y∧y < (v.now.af.length:Int)) (aZ v part cz links):=have h:=Sk.de _ (sD v part cz links); h
theorem BN (v:View) (part:Int) (cz:Int) (links:List Int) (hl:v.lead.length≠0) (hn:v.now.af.length≤1000000):(fS v part cz links).bz (fun _=>True):=by
 unfold fS
 try simp only [nY,aJ]
 exact oj
def pV v part cz links:=kp tok mixed Tryz.func27 [av v.cells,iv part,iv cz,lv bU links] (fun x=>lv bU x) false (aZ v part cz links) (u2 (BN v part cz links)) (sD v part cz links)
def wA (rv:View→Int→Int) (rp:View→Int→Prop) (rf:∀ (v:View) (sign:Int),rp v sign→gu Tryz.prog 61 [av v.cells,iv sign] [] (iv (rv v sign)) []) (v:View) (sign:Int):gn (Int):=⟨Tryz.prog,61,[av v.cells,iv sign],fun x=>iv x,true,rv v sign,rp v sign,rf v sign,fun _=>True,trivial⟩
def gU (rv:View→Int→Int) (rp:View→Int→Prop) (rf:∀ (v:View) (sign:Int),rp v sign→gu Tryz.prog 61 [av v.cells,iv sign] [] (iv (rv v sign)) []) (v:View) (sign:Int):Sk (Int) :=
 .r 1 (.p (bG sign v.now.af.length)) fun _ =>
 .br ((((v.now.af.getD sign.toNat default).kind) == 3)||(((v.now.af.getD sign.toNat default).kind) == 4))
 (.r 3 ((wA rv rp rf v ((v.now.af.getD sign.toNat default).for_)).c) fun x1 =>
 .fin x1)
 (.fin sign)
def aW:Nat→View→Int→Int
 | 0,_,_=>default
 | fu+1,v,sign=>(gU (aW fu) (fun _ _=>False) (fun _ _=>fun h=>h.elim) v sign).val
theorem nf (v:View) (h:v.jD):∀ (fu:Nat) (sign:Int),0≤sign→sign < (v.now.af.length:Int)→sign.toNat < fu→0≤aW fu v sign∧aW fu v sign≤sign
 | 0,_,_,_,h3=>absurd h3 (by omega)
 | fu+1,s,h1,h2,h3=>by
  have e:aW (fu+1) v s=bif (((v.now.af.getD s.toNat default).kind) == 3)||(((v.now.af.getD s.toNat default).kind) == 4) then aW fu v ((v.now.af.getD s.toNat default).for_) else s:=by kernel_rfl
  rw [e]
  cases hk:(((v.now.af.getD s.toNat default).kind) == 3)||(((v.now.af.getD s.toNat default).kind) == 4) with
  | false=>exact ⟨h1,Int.le_refl _⟩
  | true =>
   rw [cond_true]
   have:=h s.toNat (by omega) (by simpa using hk)
   have:=nf v h fu _ this.1 (by omega) (by omega)
   omega
theorem EH (fu:Nat) (rf:∀ (v:View) (sign:Int),(sign.toNat+1)≤fu∧(v.jD)∧(0≤sign∧sign < v.now.af.length)→gu Tryz.prog 61 [av v.cells,iv sign] [] (iv (aW fu v sign)) []) (v:View) (sign:Int) (hm:(sign.toNat+1)≤fu+1) (hv:v.jD) (hs:0≤sign∧sign < v.now.af.length):(gU (aW fu) (fun v sign=>(sign.toNat+1)≤fu∧(v.jD)∧(0≤sign∧sign < v.now.af.length)) rf v sign).bz (fun _=>True):=by
 refine Sk.aX _ ?_
 unfold gU
 simp only [Sk.kq,Sk.aO,reduceCtorEq,ON,kk,kp,wA,maxLen]
 refine ⟨hs,fun _ hk=>?_⟩
 have:=hv sign.toNat (by omega) (by simpa using hk)
 exact ⟨by omega,hv,by omega,by omega⟩
theorem Dr (fu:Nat) (rp:View→Int→Prop) (rf:∀ (v:View) (sign:Int),rp v sign→gu Tryz.prog 61 [av v.cells,iv sign] [] (iv (aW fu v sign)) []) (v:View) (sign:Int):(gU (aW fu) rp rf v sign).val=aW (fu+1) v sign:=by kernel_rfl
theorem Ds (fu:Nat):∀ (v:View) (sign:Int),(sign.toNat+1)≤fu→v.jD→(0≤sign∧sign < v.now.af.length)→gu Tryz.prog 61 [av v.cells,iv sign] [] (iv (aW fu v sign)) []:=by
 induction fu with
 | zero=>intro v sign hm h0 h1; exact absurd hm (by omega)
 | succ fu ih =>
  intro v sign hm h0 h1
  have h:gu Tryz.prog 61 [av v.cells,iv sign] [] (iv ((gU (aW fu) (fun v sign=>(sign.toNat+1)≤fu∧(v.jD)∧(0≤sign∧sign < v.now.af.length)) (fun v sign h=>ih v sign h.1 h.2.1 h.2.2) v sign).val)) []:=gu.sk tok mixed (fun x=>iv x) (fun _=>[]) Tryz.func61 rfl (by kernel_rfl) 3000 (gU (aW fu) (fun v sign=>(sign.toNat+1)≤fu∧(v.jD)∧(0≤sign∧sign < v.now.af.length)) (fun v sign h=>ih v sign h.1 h.2.1 h.2.2) v sign) (by kernel_rfl) (EH fu _ v sign hm h0 h1)
  rw [Dr] at h
  exact h
def aw (v:View) (sign:Int):Int:=aW ((sign.toNat+1)) v sign
theorem EI (v:View) (sign:Int) (hv:v.jD) (hs:0≤sign∧sign < v.now.af.length):gu Tryz.prog 61 [av v.cells,iv sign] [] (iv (aw v sign)) []:=Ds _ v sign (Nat.le_refl _) hv hs
theorem BO (v:View) (sign:Int):(fun (x:Int)=>v.jD→0≤sign∧sign < (v.now.af.length:Int)→0≤x∧x≤sign) (aw v sign):=by
 exact fun h hs=>nf v h _ sign hs.1 hs.2 (by omega)
def sn (v:View) (sign:Int):gn (Int):=⟨Tryz.prog,61,[av v.cells,iv sign],fun x=>iv x,true,aw v sign,(v.jD)∧(0≤sign∧sign < v.now.af.length),fun h=>EI v sign h.1 h.2,fun (x:Int)=>v.jD→0≤sign∧sign < (v.now.af.length:Int)→0≤x∧x≤sign,BO v sign⟩
def iC (a:bh):Sk (Bool) :=
 .fin ((a.kind == 1)||(a.kind == 3))
def dp a:=(iC a).val
theorem qi (a:bh):dp a=((a.kind == 1)||(a.kind == 3)):=rfl
theorem yh (a:bh):(iC a).bz (fun _=>True):=by
 unfold iC
 exact pv
def l7 a:=kk tok mixed Tryz.func64 [av a.cells] (fun x=>bv x) true (iC a) (dp a) (u0 (yh a))
def fh (s:List bh):Sk (Int) :=
 .bind true (fun b1=>∀ q,q < s.length→dp (s.getD q default)=false)
 (.loop (default:Sum (Int) (Unit)) (fun i2=>∀ q,q < i2→dp (s.getD q default)=false) (fun i2=>s.length - i2) (0:Nat)
 (fun (i2:Nat)=>⟨[(8,iv (i2:Int))],[]⟩) fun i2 =>
 .lt 0 0 i2 s.length
 (.r 4 (.aq (.p (bG (i2:Int) s.length)) ((l7 (s.getD i2 default)).c)) fun x3 =>
 .br x3
 (.fin (.inl (.inl (i2:Int))))
 (.nx 6 8 i2 (i2+1)))
 (.fin (.inl (.inr ()))))
 (fun (_:Unit)=>⟨[],[]⟩) fun _ =>
 .fin (-1)
def AO s:=(fh s).val
theorem wB (s:List bh):(fh s).cZ (fun (x:Int)=>(x = -1∧∀ q,q < s.length→dp (s.getD q default)=false)∨(0≤x∧x < s.length∧dp (s.getD x.toNat default)=true∧∀ q,(q:Nat) < x.toNat→dp (s.getD q default)=false)):=by
 unfold fh
 try simp only [l7,qi]
 exact RW
theorem xC (s:List bh):(fh s).bz (fun _=>True):=by
 unfold fh
 try simp only [l7,qi]
 exact yn
def lh s:=kp tok mixed Tryz.func112 [lv bh.cells s,.fn 64 []] (fun x=>iv x) true (AO s) (u0 (xC s)) (wB s)
def dL (s:List bh):Sk (Bool) :=
 .r 1 ((lh s).c) fun x1 =>
 .fin (decide (x1≥0))
def cD s:=(dL s).val
theorem ui (s:List bh):(dL s).cZ (fun (x:Bool)=>(x=true↔∃ q,q < s.length∧dp (s.getD q default)=true)):=by
 unfold dL
 try simp only [lh]
 exact DE
theorem ux (s:List bh):(dL s).bz (fun _=>True):=by
 unfold dL
 try simp only [lh]
 exact pv
def jI s:=kp tok mixed Tryz.func63 [lv bh.cells s,.fn 64 []] (fun x=>bv x) true (cD s) (u0 (ux s)) (ui s)
structure Kept where
 shown:Int
 Ag:Int
 EJ:Int
 all:Int
 deriving Inhabited
def Kept.cells (c:Kept):List D:=[dI c.shown,dI c.Ag,dI c.EJ,dI c.all]
structure cy where
 r:ah
 forum:Int
 f:al
 sign:Int
 day:Int
 due:Int
 deriving Inhabited
def cy.cells (c:cy):List D:=c.r.cells++[dI c.forum]++c.f.cells++[dI c.sign,dI c.day,dI c.due]
def cy.LH (v:cy):Prop:=0≤v.f.aR.yo∧v.f.aR.yo < v.r.aI.length
def ju (r:ah) (forum:Int) (f:al) (sign:Int) (day:Int):Sk (cy) :=
 .r 1 (.dep ((ch f day).c) fun _=>(cK r forum f day).c) fun p3 =>
 .fin ({ r:=r,forum:=forum,f:=p3.1,sign:=sign,day:=day,due:=p3.2 }:cy)
def fj r forum f sign day:=(ju r forum f sign day).val
theorem BP (r:ah) (forum:Int) (f:al) (sign:Int) (day:Int):(ju r forum f sign day).cZ (fun (x:cy)=>x.r=r∧x.f=ai f day∧x.sign=sign):=by
 unfold ju
 try simp only [cK,ch,al.Small,ah.Small,ah.cG]
 exact DE
theorem Dt (r:ah) (forum:Int) (f:al) (sign:Int) (day:Int) (bM:f.Small) (cu:r.cG) (bN:r.Small):(ju r forum f sign day).bz (fun _=>True):=by
 simp only [al.Small,ah.Small,ah.cG] at bM
 simp only [al.Small,ah.Small,ah.cG] at cu
 simp only [al.Small,ah.Small,ah.cG] at bN
 unfold ju
 try simp only [cK,ch,al.Small,ah.Small,ah.cG]
 exact oj
def qL r forum f sign day:=kp tok mixed Tryz.func113 [av r.cells,iv forum,av f.cells,iv sign,iv day] (fun x=>av x.cells) false (fj r forum f sign day) (u3 (Dt r forum f sign day)) (BP r forum f sign day)
def gp (v:cy) (kind:Int) (from_:Int):Sk (Int) :=
 .bt
 (.loop (default:Sum (Int) (Unit)) (fun i2=>i2≤v.f.aA.length) (fun i2=>v.f.aA.length - i2) (0:Nat)
 (fun (i2:Nat)=>⟨[(13,iv (i2:Int))],[]⟩) fun i2 =>
 .lt 11 0 i2 v.f.aA.length
 (.r 3 (.p (bG (i2:Int) v.f.aA.length)) fun _ =>
 .br (((((v.f.aA.getD i2 default).kind) == kind)&&(((v.f.aA.getD i2 default).cj) == v.f.aR.na))&&(decide (((v.f.aA.getD i2 default).day)≥from_)))
 (.fin (.inl (.inl ((v.f.aA.getD i2 default).day))))
 (.nx 6 13 i2 (i2+1)))
 (.fin (.inl (.inr ()))))
 (fun (_:Unit)=>⟨[],[]⟩) fun _ =>
 .fin (-1)
def dq v kind from_:=(gp v kind from_).val
theorem wC (v:cy) (kind:Int) (from_:Int):(gp v kind from_).bz (fun _=>True):=by
 unfold gp
 exact oj
def dH v kind from_:=kk tok mixed Tryz.func150 [av v.cells,iv kind,iv from_] (fun x=>iv x) true (gp v kind from_) (dq v kind from_) (u0 (wC v kind from_))
structure qj where
 known:Bool
 last:Int
 deriving Inhabited
def qj.cells (c:qj):List D:=[dB c.known,dI c.last]
def gF (v:cy):Sk (qj) :=
 .r 1 ((ou v.r v.forum 7 v.f v.day).c) fun x1 =>
 .br (x1.err != 0)
 (.fin ({ known:=true,last:=9223372036854775807 }:qj))
 (.br (!x1.cell.known)
 (.fin ({ known:=false,last:=0 }:qj))
 (.br (decide ((au (v.f.aR.day+x1.cell.n)) > 100000))
 (.fin ({ known:=true,last:=9223372036854775807 }:qj))
 (.fin ({ known:=true,last:=au (v.f.aR.day+x1.cell.n) }:qj))))
def fq v:=(gF v).val
theorem xD (v:cy) (gN:v.f.Small) (l6:v.r.cG) (ku:v.r.Small):(gF v).bz (fun _=>True):=by
 unfold gF
 try simp only [ou]
 exact oj
def iD v:=kk tok mixed Tryz.func151 [av v.cells] (fun x=>av x.cells) true (gF v) (fq v) (u3 (xD v))
def fZ (v:cy) (on:Int) (t:qj):Sk (Int) :=
 .br (!t.known)
 (.fin 2)
 (.br ((on != (-1))&&(decide (on≤t.last)))
 (.fin 1)
 (.br ((on != (-1))||(decide (v.day > t.last)))
 (.fin 0)
 (.fin 2)))
def cx v on t:=(fZ v on t).val
theorem vt (v:cy) (on:Int) (t:qj):(fZ v on t).bz (fun _=>True):=by
 unfold fZ
 exact pv
def eM v on t:=kk tok mixed Tryz.func149 [av v.cells,iv on,av t.cells] (fun x=>iv x) true (fZ v on t) (cx v on t) (u0 (vt v on t))
def fE (v:cy):Sk (Int) :=
 .r 1 ((dH v 1 0).c) fun x1 =>
 .br (decide (x1 > v.due))
 (.fin (-1))
 (.fin x1)
def cP v:=(fE v).val
theorem uy (v:cy):(fE v).bz (fun _=>True):=by
 unfold fE
 try simp only [dH]
 exact pv
def ed v:=kk tok mixed Tryz.func152 [av v.cells] (fun x=>iv x) true (fE v) (cP v) (u0 (uy v))
def mQ (l:List Int):Sk (Int) :=
 .r 1 ((aJ l 0).c) fun x1 =>
 .br x1
 (.fin 0)
 (.r 3 ((aJ l 2).c) fun x2 =>
 .br x2
 (.fin 2)
 (.fin 1))
def cW l:=(mQ l).val
theorem EK (l:List Int):(mQ l).bz (fun _=>True):=by
 unfold mQ
 try simp only [aJ]
 exact pv
def gw l:=kk tok mixed Tryz.func119 [lv bU l] (fun x=>iv x) true (mQ l) (cW l) (u0 (EK l))
def gq (v:cy) (aU:Int):Sk (lW) :=
 .r 1 ((gS v.r v.forum aU ({ file:=v.f,sign:=v.sign,jE:=v.sign,jO:=(-1),due:=v.due,day:=v.day }:fw)).c) fun x1 =>
 .fin x1
def bw v aU:=(gq v aU).val
theorem wD (v:cy) (aU:Int) (gN:v.f.Small) (l6:v.r.cG) (ku:v.r.Small):(gq v aU).bz (fun _=>True):=by
 unfold gq
 try simp only [gS]
 exact oj
def aY v aU:=kk tok mixed Tryz.func116 [av v.cells,iv aU] (fun x=>av x.cells) false (gq v aU) (bw v aU) (u3 (wD v aU))
def mR (c_:jB) (day:Int) (n:Int):Sk (Int × Int) :=
 .r 1 ((fR day).c) fun x1 =>
 .br (((!x1)||(decide (n < 0)))||(decide (n > 20000)))
 (.fin (0,3))
 (.bt
 (.loop (default:Sum (Int × Int) (Int)) (fun i3=>0≤i3.2∧i3.2≤n∧0≤i3.1∧i3.1≤100000) (fun i3=>(n - i3.2).toNat) ((day,0):Int × Int)
 (fun (i3:Int × Int)=>⟨[(1,iv i3.1),(22,iv i3.2)],[]⟩) fun i3 =>
 .br (decide (i3.2 < n))
 (.r 5 ((kS c_ (au (i3.1+1))).c) fun x4 =>
 .br (x4.2 != 0)
 (.fin (.inl (.inl (0,x4.2))))
 (.fin (.inr (x4.1,au (i3.2+1)))))
 (.fin (.inl (.inr i3.1))))
 (fun (b2:Int)=>⟨[(1,iv b2)],[]⟩) fun b2 =>
 .fin (b2,0))
def vu c_ day n:=(mR c_ day n).val
theorem EL (c_:jB) (day:Int) (n:Int):(mR c_ day n).bz (fun _=>True):=by
 unfold mR
 try simp only [kS,fR,pN]
 exact yn
def xY c_ day n:=kk tok mixed Tryz.func194 [av c_.cells,iv day,iv n] (fun x=>.fL [iv x.1,iv x.2]) true (mR c_ day n) (vu c_ day n) (u0 (EL c_ day n))
def gG (v:cy) (said:lW) (from_:Int):Sk (qj) :=
 .br (said.err != 0)
 (.fin ({ known:=true,last:=9223372036854775807 }:qj))
 (.br (!said.cell.known)
 (.fin ({ known:=false,last:=0 }:qj))
 (.r 5 (.aq (.p (bG v.f.aR.yo v.r.aI.length)) ((xY (v.r.aI.getD v.f.aR.yo.toNat default) from_ said.cell.n).c)) fun x1 =>
 .br (x1.2 != 0)
 (.fin ({ known:=true,last:=9223372036854775807 }:qj))
 (.fin ({ known:=true,last:=x1.1 }:qj))))
def cp v said from_:=(gG v said from_).val
theorem xE (v:cy) (said:lW) (from_:Int) (hp:v.LH):(gG v said from_).bz (fun _=>True):=by
 unfold gG
 try simp only [xY]
 exact oj
def bK v said from_:=kk tok mixed Tryz.func153 [av v.cells,av said.cells,iv from_] (fun x=>av x.cells) true (gG v said from_) (cp v said from_) (xE v said from_)
def db (v:cy):Sk (Int) :=
 .br (v.f.aR.cR.kind == 0)
 (.r 3 (.dep ((dH v 2 0).c) fun x1=>.dep ((iD v).c) fun x2=>(eM v x1 x2).c) fun p4 =>
 .fin p4.2.2)
 (.bind false (fun _=>True)
 (.br (v.f.aR.cR.kind == 1)
 (.r 6 (.dep ((nA v.f).c) fun x6=>.dep ((iD v).c) fun x7=>(eM v x6 x7).c) fun p9 =>
 .fin (.inr p9.2.2))
 (.fin (.inr 1)))
 (fun (b5:Int)=>⟨[(4,iv b5)],[]⟩) fun b5 =>
 .r 7 ((ed v).c) fun Oc =>
 .br (Oc != (-1))
 (.fin b5)
 (.br (v.due == (-1))
 (.r 10 (.aq (.o [.fU (gB eA [b5,2])]) ((gw [b5,2]).c)) fun x11 =>
 .fin x11)
 (.r 11 (.dep ((dH v 2 v.due).c) fun Y0=>.dep ((aY v 10).c) fun Ii=>.dep ((bK v Ii v.due).c) fun x14=>.dep ((eM v Y0 x14).c) fun x15=>.aq (.o [.fU (gB eA [b5,x15])]) ((gw [b5,x15]).c)) fun p17 =>
 .fin p17.2.2.2.2)))
def cX v:=(db v).val
theorem s5 (v:cy) (gN:v.f.Small) (l6:v.r.cG) (ku:v.r.Small) (LI:v.LH):(db v).bz (fun _=>True):=by
 refine Sk.aX _ ?_
 unfold db
 simp (maxSteps:=2000000) only [Sk.kq,Sk.aO,reduceCtorEq,ON,kk,kp,gw,aY,bK,dH,ed,iD,eM,nA,maxLen]
 all_goals (repeat' first | assumption | (apply And.intro) | (intro h))
 all_goals first | trivial | assumption | omega | ((try simp only [LN] at *) <;> first | omega | (refine (aG ?_ ?_).trans ?_ <;> omega) | (simp (disch:=omega) only [aG] at *; omega) | (grind) | (simp_all; done) | (simp_all; omega))
def ig v:=kk tok mixed Tryz.func114 [av v.cells] (fun x=>iv x) true (db v) (cX v) (u4 (s5 v))
def eO (v:cy):Sk (Int) :=
 .r 1 ((ed v).c) fun x1 =>
 .br (x1 != (-1))
 (.fin x1)
 (.fin v.due)
def bC v:=(eO v).val
theorem s6 (v:cy):(eO v).bz (fun _=>True):=by
 unfold eO
 try simp only [ed]
 exact pv
def cw v:=kk tok mixed Tryz.func154 [av v.cells] (fun x=>iv x) true (eO v) (bC v) (u0 (s6 v))
def dc (v:cy):Sk (Int) :=
 .r 1 ((cw v).c) fun x1 =>
 .r 2 (.dep ((aY v 10).c) fun x2=>(bK v x2 x1).c) fun UN =>
 .br (!UN.2.known)
 (.fin 2)
 (.bind false (fun _=>True)
 (.br (decide (v.day≤UN.2.last))
 (.fin (.inr 2))
 (.fin (.inr 0)))
 (fun (b4:Int)=>⟨[(5,iv b4)],[]⟩) fun b4 =>
 .bt
 (.loop (default:Sum (Int) (Int)) (fun i6=>i6.2≤v.f.aA.length) (fun i6=>v.f.aA.length - i6.2) ((b4,0):Int × Nat)
 (fun (i6:Int × Nat)=>⟨[(5,iv i6.1),(28,iv (i6.2:Int))],[]⟩) fun i6 =>
 .lt 26 0 i6.2 v.f.aA.length
 (.r 10 (.p (bG (i6.2:Int) v.f.aA.length)) fun _ =>
 .br ((((((v.f.aA.getD i6.2 default).kind) != 4)||(((v.f.aA.getD i6.2 default).cj) != v.f.aR.na))||(decide (((v.f.aA.getD i6.2 default).day) < x1)))||(decide (((v.f.aA.getD i6.2 default).day) > UN.2.last)))
 (.nx 19 28 i6.2 (i6.1,i6.2+1))
 (.bind false (fun _=>True)
 (.br (((v.f.aA.getD i6.2 default).form) == 1)
 (.r 14 (.dep ((aY v 9).c) fun x8=>(fp x8).c) fun RZ =>
 .fin (.inr RZ.2))
 (.fin (.inr 1)))
 (fun (b7:Int)=>⟨[(8,iv b7)],[]⟩) fun b7 =>
 .br (b7 == 1)
 (.fin (.inl (.inl 1)))
 (.br (b7 == 2)
 (.nx 19 28 i6.2 (2,i6.2+1))
 (.nx 19 28 i6.2 (i6.1,i6.2+1)))))
 (.fin (.inl (.inr i6.1))))
 (fun (b5:Int)=>⟨[(5,iv b5)],[]⟩) fun b5 =>
 .fin b5)
def cY v:=(dc v).val
theorem s7 (v:cy) (gN:v.f.Small) (l6:v.r.cG) (ku:v.r.Small) (LI:v.LH):(dc v).bz (fun _=>True):=by
 unfold dc
 try simp only [fp,aY,bK,cw]
 exact oj
def ij v:=kk tok mixed Tryz.func117 [av v.cells] (fun x=>iv x) true (dc v) (cY v) (u4 (s7 v))
def jV (said:lW) (answer:Int):Sk (Int) :=
 .r 1 ((fp said).c) fun x1 =>
 .br ((x1 == 0)||(answer == 1))
 (.fin 1)
 (.br (x1 == 2)
 (.fin 2)
 (.fin answer))
def gV said answer:=(jV said answer).val
theorem AP (said:lW) (answer:Int):(jV said answer).bz (fun _=>True):=by
 unfold jV
 try simp only [fp]
 exact pv
def kK said answer:=kk tok mixed Tryz.func115 [av said.cells,iv answer] (fun x=>iv x) true (jV said answer) (gV said answer) (u0 (AP said answer))
def cM (v:cy):Sk (Int) :=
 .r 1 ((cw v).c) fun x1 =>
 .r 2 ((aY v 12).c) fun x2 =>
 .r 3 ((bK v x2 x1).c) fun x3 =>
 .br (!x3.known)
 (.fin 2)
 (.bt
 (.loop (default:Sum (Int) (Int)) (fun i5=>i5.2.2≤v.f.aA.length∧i5.2.1.length≤i5.2.2) (fun i5=>v.f.aA.length - i5.2.2) ((x3.last,[],0):Int × (List bh) × Nat)
 (fun (i5:Int × (List bh) × Nat)=>⟨[(6,iv i5.1),(7,ow 100005 i5.2.1),(30,iv (i5.2.2:Int))],[(100005,bO 62 9 bh.cells i5.2.1)]⟩) fun i5 =>
 .lt 28 0 i5.2.2 v.f.aA.length
 (.bind true (fun b6=>b6.2.1.length≤i5.2.1.length+1)
 (.r 10 (.p (bG (i5.2.2:Int) v.f.aA.length)) fun _ =>
 .br (((v.f.aA.getD i5.2.2 default).kind) != 5)
 (.fin (.inr (i5.1,i5.2.1,v.f.aA.getD i5.2.2 default,(v.f.aA.getD i5.2.2 default).kind,((v.f.aA.getD i5.2.2 default).kind) != 5)))
 (.bt
 (.loop (default:Sum (Sum (Sum (Sum (Int) (Int)) (Int × (List bh) × Nat)) (Int × (List bh) × bh × Int × Bool)) (Bool × Int × Bool)) (fun i8=>i8.2≤i5.2.1.length) (fun i8=>i5.2.1.length - i8.2) (((decide (((v.f.aA.getD i5.2.2 default).day)≥x1))&&(decide (((v.f.aA.getD i5.2.2 default).day)≤x3.last)),0):Bool × Nat)
 (fun (i8:Bool × Nat)=>⟨[(10,bv i8.1),(50,iv (i8.2:Int))],[]⟩) fun i8 =>
 .lt 7 0 i8.2 i5.2.1.length
 (.r 15 (.aq (.p (bG (i8.2:Int) i5.2.1.length)) (.p (i8.2 < i5.2.1.length))) fun _ =>
 .r 16 (.wh i8.1 false (.wh (((i5.2.1.getD i8.2 default).cj) == ((v.f.aA.getD i5.2.2 default).dt)) true ((bK v x2 ((i5.2.1.getD i8.2 default).day)).c))) fun x9 =>
 .r 17 .z fun _ =>
 .wi 50 (au ((i8.2:Int)+1)) ((i8.2+1:Nat):Int) <|
 .fin (.inr (i8.1||((((i5.2.1.getD i8.2 default).cj) == ((v.f.aA.getD i5.2.2 default).dt))&&(decide (((v.f.aA.getD i5.2.2 default).day)≤x9.last))),i8.2+1)))
 (.fin (.inl (.inr (i8.1,(i8.2:Int),decide ((i8.2:Int) < ((i5.2.1.length:Nat):Int)))))))
 (fun (b7:Bool × Int × Bool)=>⟨[(10,bv b7.1),(50,iv b7.2.1),(51,bv b7.2.2)],[]⟩) fun b7 =>
 .br (!b7.1)
 (.fin (.inr (i5.1,i5.2.1,v.f.aA.getD i5.2.2 default,(v.f.aA.getD i5.2.2 default).kind,((v.f.aA.getD i5.2.2 default).kind) != 5)))
 (.r 19 (.p (bG v.sign v.f.af.length)) fun _ =>
 .br (((v.f.aA.getD i5.2.2 default).cj) == ((v.f.af.getD v.sign.toNat default).dt))
 (.fin (.inl (.inl (.inl 1))))
 (.r 21 (.aq (.o [.fU (gB bh.E [v.f.aA.getD i5.2.2 default])]) (.aq (.o [.fU (og bh.E i5.2.1 [v.f.aA.getD i5.2.2 default])]) (.aq (.t (bh.E.qc [v.f.aA.getD i5.2.2 default])) (.p (ym i5.2.1.length [v.f.aA.getD i5.2.2 default].length 72))))) fun _ =>
 .r 22 ((bK v x2 ((v.f.aA.getD i5.2.2 default).day)).c) fun Oc =>
 .fin (.inr (cg i5.1 Oc.last,i5.2.1++[v.f.aA.getD i5.2.2 default],v.f.aA.getD i5.2.2 default,(v.f.aA.getD i5.2.2 default).kind,((v.f.aA.getD i5.2.2 default).kind) != 5))))))
 (fun (b6:Int × (List bh) × bh × Int × Bool)=>⟨[(6,iv b6.1),(7,ow 100007 b6.2.1),(33,av b6.2.2.1.cells),(35,iv b6.2.2.2.1),(36,bv b6.2.2.2.2)],[(100007,bO 62 9 bh.cells b6.2.1)]⟩) fun b6 =>
 .nx 23 30 i5.2.2 (b6.1,b6.2.1,i5.2.2+1))
 (.fin (.inl (.inr i5.1))))
 (fun (b4:Int)=>⟨[(6,iv b4)],[]⟩) fun b4 =>
 .br (decide (v.day > b4))
 (.fin 0)
 (.fin 2))
def df v:=(cM v).val
theorem uj (v:cy) (hs:0≤v.sign∧v.sign < (v.f.af.length:Int)) (gN:v.f.Small) (l6:v.r.cG) (ku:v.r.Small) (LI:v.LH):(cM v).bz (fun _=>True):=by
 refine Sk.aX _ ?_
 unfold cM
 simp only [Sk.kq,Sk.aO,reduceCtorEq,ON,kk,kp,aY,bK,cw,maxLen]
 have hS1:=gN.2.2.1
 all_goals exact okT
def iK v:=kk tok mixed Tryz.func118 [av v.cells] (fun x=>iv x) true (cM v) (df v) (u5 (uj v))
def jv (r:ah) (forum:Int) (f:al) (sign:Int) (day:Int):Sk (Kept) :=
 .r 1 ((qL r forum f sign day).c) fun x1 =>
 .br ((decide (sign < 0))||(decide (sign≥((x1.f.af.length:Nat):Int))))
 (.fin ({ shown:=0,Ag:=0,EJ:=0,all:=0 }:Kept))
 (.r 5 ((ig x1).c) fun x2 =>
 .bind false (fun _=>True)
 (.br (x1.due != (-1))
 (.r 7 (.dep ((aY x1 8).c) fun x4=>.dep ((ij x1).c) fun x5=>(kK x4 x5).c) fun UN =>
 .r 8 (.dep ((aY x1 11).c) fun x7=>.dep ((iK x1).c) fun x8=>(kK x7 x8).c) fun RZ =>
 .fin (.inr ({ shown:=x2,Ag:=UN.2.2,EJ:=RZ.2.2,all:=0 }:Kept)))
 (.fin (.inr ({ shown:=x2,Ag:=2,EJ:=2,all:=0 }:Kept))))
 (fun (b3:Kept)=>⟨[],[(12,.box (b3.cells.map .d))]⟩) fun b3 =>
 .r 9 (.aq (.o [.fU (gB eA [b3.shown,b3.Ag,b3.EJ])]) ((gw [b3.shown,b3.Ag,b3.EJ]).c)) fun Y0 =>
 .fin ({ b3 with all:=Y0 }))
def il r forum f sign day:=(jv r forum f sign day).val
theorem Du (r:ah) (forum:Int) (f:al) (sign:Int) (day:Int) (hF:cm r f) (bM:f.Small) (cu:r.cG) (bN:r.Small):(jv r forum f sign day).bz (fun _=>True):=by
 refine Sk.aX _ ?_
 unfold jv
 simp only [Sk.kq,Sk.aO,reduceCtorEq,ON,kk,kp,gw,qL,kK,aY,iK,ig,ij,maxLen]
 refine ⟨⟨bM,cu,bN⟩,fun x _ hx hc=>?_⟩
 have hS:x.f.Small:=by rw [hx.2.1]; exact zg bM day
 have hB:x.r.cG:=by rw [hx.1]; exact cu
 have hR:x.r.Small:=by rw [hx.1]; exact bN
 have hp:x.LH:=by unfold cy.LH; rw [hx.1,hx.2.1,P3]; exact hF.1.2.1
 have hs:0≤x.sign∧x.sign < (x.f.af.length:Int):=by rw [hx.2.2]; simp only [LN] at hc; omega
 all_goals exact okT
def qM r forum f sign day:=kk tok mixed Tryz.func65 [av r.cells,iv forum,av f.cells,iv sign,iv day] (fun x=>av x.cells) true (jv r forum f sign day) (il r forum f sign day) (u4 (Du r forum f sign day))
theorem uY {d:Array Int} {n:Nat} (hs:∀ i j,i≤j→j < n→d[i]!≤d[j]!):∀ m,m≤n→(Lib.compactUpTo d m).Pairwise (· < ·)∧∀ x,x∈Lib.compactUpTo d m↔∃ j,j < m∧d[j]! = x
 | 0,_=>by simp [Lib.compactUpTo]
 | m+1,hm=>by
  obtain ⟨h1,h2⟩:=uY hs m (by omega)
  rw [Lib.compactUpTo_succ]
  by_cases hk:Lib.keeps d m=true
  ·rw [if_pos hk]
   refine ⟨List.pairwise_append.2 ⟨h1,by simp,fun a ha b hb=>?_⟩,fun x=>?_⟩
   ·simp only [List.mem_singleton] at hb
    subst hb
    obtain ⟨j,hj,rfl⟩:=(h2 a).1 ha
    have h3:=hs j (m - 1) (by omega) (by omega)
    have h4:=hs (m - 1) m (by omega) (by omega)
    simp only [Lib.keeps,decide_eq_true_eq] at hk
    rcases hk with hk | hk
    ·omega
    ·omega
   ·rw [List.mem_append,h2,List.mem_singleton]
    constructor
    ·rintro (⟨j,hj,rfl⟩ | rfl)
     ·exact ⟨j,by omega,rfl⟩
     ·exact ⟨m,by omega,rfl⟩
    ·rintro ⟨j,hj,rfl⟩
     by_cases e:j=m
     ·subst e; exact .inr rfl
     ·exact .inl ⟨j,by omega,rfl⟩
  ·rw [if_neg hk,List.append_nil]
   refine ⟨h1,fun x=>(h2 x).trans ?_⟩
   constructor
   ·rintro ⟨j,hj,rfl⟩
    exact ⟨j,by omega,rfl⟩
   ·rintro ⟨j,hj,rfl⟩
    by_cases e:j=m
    ·subst e
     simp only [Lib.keeps,decide_eq_true_eq,not_or] at hk
     have:¬ d[j]!≠d[j - 1]!:=hk.2
     exact ⟨j - 1,by omega,by omega⟩
    ·exact ⟨j,by omega,rfl⟩
theorem Nj (l:List Int):(Lib.compact (iH l)).Pairwise (· < ·)∧∀ x,x∈Lib.compact (iH l)↔x∈l:=by
 have hp:(iH l).Pairwise (·≤·):=by
  have:=List.pairwise_mergeSort (le:=fun x y:Int=>decide (x≤y)) (fun a b c h1 h2=>by simp at *; omega) (fun a b=>by simp; omega) l
  exact this.imp (fun h=>by simpa using h)
 have hg:∀ j,j < (iH l).length→(iH l).toArray[j]! = (iH l).getD j default:=fun j hj=>by simp [List.getD,hj]
 have hs:∀ i j,i≤j→j < (iH l).length→(iH l).toArray[i]!≤(iH l).toArray[j]!:=fun i j hij hj=>by
  rw [hg i (by omega),hg j hj]
  by_cases e:i=j
  ·subst e; exact Int.le_refl _
  ·have:=List.pairwise_iff_getElem.1 hp i j (by omega) hj (by omega)
   simpa [List.getD,hj,show i < (iH l).length by omega] using this
 obtain ⟨h1,h2⟩:=uY hs (iH l).length (Nat.le_refl _)
 refine ⟨h1,fun x=>(h2 x).trans (Iff.trans ?_ (List.mergeSort_perm l fun x y=>decide (x≤y)).mem_iff)⟩
 constructor
 ·rintro ⟨j,hj,rfl⟩
  rw [hg j hj]
  exact tK hj _
 ·intro hx
  obtain ⟨i,hi,rfl⟩:=List.getElem_of_mem hx
  have fM:i < (iH l).length:=hi
  refine ⟨i,fM,(hg i fM).trans ?_⟩
  show (iH l).getD i default=(iH l)[i]
  simp [List.getD,fM]
theorem Fl {β Y:Type} {γ:Type} (sg:γ→List β) (se:Y→β) {δ:Type} (sd:δ→List β) {f:γ→Y→δ ⊕ γ}:∀ (l:List Y) (s:γ),(∀ s y,match f s y with | .inl e=>sd e=sg s | .inr s'=>sg s'=sg s++[se y]) →
  ∃ k,(match pj f l s with | .inl e=>sd e | .inr s'=>sg s')=sg s++(l.take k).map se
 | [],s,_=>⟨0,by simp [pj]⟩
 | y :: r,s,h=>by
  have h1:=h s y
  simp only [pj]
  cases e:f s y with
  | inl b=>rw [e] at h1; exact ⟨0,by simpa using h1⟩
  | inr s' =>
   rw [e] at h1
   obtain ⟨k,hk⟩:=Fl sg se sd r s' h
   refine ⟨k+1,?_⟩
   rw [hk,h1]
   simp
theorem Ja (f:al) (part day:Int):∃ k,(ky f part day).af=((bo f day part).take k).map (·.1):=by
 unfold ky kd
 dsimp +instances only [Sk.dh,Sk.gd,Sk.iZ,Sk.eQ,Sk.iG,Sk.lU,Sk.cO,Sk.WQ,gn.xS,kk,kp,bg.pq,jQ,jr,fY,rj]
 obtain ⟨k,hk⟩:=Fl (fun s:List Int × Int × Bool × Int × List Int=>s.1) (fun y:Int × Sign=>y.1) (fun e:List Int × Int × Int × Bool × Int × List Int=>e.1)
  (f:=fun s y=>bif (!s.2.2.1)&&(y.2.dt != s.2.1) then .inl (s.1,s.2.1,y.1,s.2.2.1,s.2.2.2.1,s.2.2.2.2) else bif (jq f day).2&&decide (y.2.day > (jq f day).1) then .inr (s.1++[y.1],y.2.cj,y.2.cj == (-1),zE s.2.2.2.1 y.2.flags,s.2.2.2.2++[y.1]) else .inr (s.1++[y.1],y.2.cj,y.2.cj == (-1),zE s.2.2.2.1 y.2.flags,s.2.2.2.2))
  (bo f day part) ([],f.aR.kr,f.aR.kr == (-1),0,[]) (fun s y=>by
   cases (!s.2.2.1)&&(y.2.dt != s.2.1)
   ·cases (jq f day).2&&decide (y.2.day > (jq f day).1) <;> rfl
   ·rfl)
 refine ⟨k,?_⟩
 rw [List.nil_append] at hk
 rw [← hk]
 generalize hr:pj _ _ _=r
 cases r <;> rfl
theorem Qm (f:al) (day part:Int):((bo f day part).map (·.1)).Pairwise (· < ·):=by
 unfold bo
 rw [List.map_map,List.pairwise_map]
 have h:(List.range f.af.length).Pairwise (· < ·):=List.pairwise_lt_range
 exact (h.sublist List.filter_sublist).imp (fun h=>by simp; omega)
theorem Nk (v:View) (part:Int):(aj v part).Pairwise (· < ·):=by
 have e:aj v part=(ky v.all part v.day).af:=rfl
 obtain ⟨k,hk⟩:=Ja v.all part v.day
 rw [e,hk,List.map_take]
 exact (Qm v.all v.day part).sublist (List.take_sublist _ _)
theorem EM {v:View} {part y:Int} (h:y∈aj v part):0≤y∧y < v.all.af.length∧(v.all.af.getD y.toNat default).kind=2∧(v.all.af.getD y.toNat default).part=part∧(v.all.af.getD y.toNat default).day≤v.day∧Cy (fc v.all v.day) y false=false:=by
 have e:aj v part=(ky v.all part v.day).af:=rfl
 obtain ⟨k,hk⟩:=Ja v.all part v.day
 rw [e,hk] at h
 obtain ⟨z,hz,rfl⟩:=List.mem_map.1 h
 obtain ⟨i,hi⟩:=List.getElem?_of_mem ((List.take_sublist _ _).subset hz)
 have:=I7 hi
 rw [← this.2.2.2.1]
 exact ⟨this.2.1,this.2.2.1,this.2.2.2.2⟩
theorem uZ (c:eu) (last:Int):∀ (links:List Int) (o z:ke),z∈dG c last links o→(z.sign=o.sign∧z.fA=o.fA∨z.sign∈links∧z.fA=(c.view.now.af.getD z.sign.toNat default).cj)∧(z.state=2∨z.state=o.state)
 | [],o,z,h=>by
  simp only [dG,List.mem_singleton] at h
  subst h
  exact ⟨.inl ⟨rfl,rfl⟩,.inr rfl⟩
 | l :: r,o,z,h=>by
  simp only [dG] at h
  cases h0:bj c l last == 0 with
  | true =>
   rw [h0,cond_true,List.mem_singleton] at h
   subst h
   exact ⟨.inl ⟨rfl,rfl⟩,.inr rfl⟩
  | false =>
   rw [h0,cond_false] at h
   have ih:∀ o',o'.sign=l→o'.fA=(c.view.now.af.getD l.toNat default).cj→(o'.state=2∨o'.state=o.state)→z∈dG c last r o'→(z.sign=o.sign∧z.fA=o.fA∨z.sign∈l :: r∧z.fA=(c.view.now.af.getD z.sign.toNat default).cj)∧(z.state=2∨z.state=o.state):=by
    intro o' e1 e2 e3 hz
    obtain ⟨h1,h2⟩:=uZ c last r o' z hz
    refine ⟨.inr ?_,?_⟩
    ·rcases h1 with ⟨h1,h3⟩ | ⟨h1,h3⟩
     ·rw [h1,e1]; exact ⟨by simp,by rw [h3,e2]⟩
     ·exact ⟨by simp [h1],h3⟩
    ·rcases h2 with h2 | h2
     ·exact .inl h2
     ·rw [h2]; exact e3
   cases h2:bj c l last == 2 with
   | true =>
    rw [h2,cond_true] at h
    rcases List.mem_cons.1 h with rfl | h
    ·exact ⟨.inl ⟨rfl,rfl⟩,.inl rfl⟩
    ·exact ih _ rfl rfl (.inl rfl) h
   | false =>
    rw [h2,cond_false] at h
    exact ih { o with fA:=(c.view.now.af.getD l.toNat default).cj,sign:=l } rfl rfl (.inr rfl) h
theorem vw (c:eu) (last:Int):∀ (links:List Int) (o:ke),(∀ y,y∈links→o.sign < y)→links.Pairwise (· < ·)→(dG c last links o).Pairwise (fun a b=>a.sign < b.sign)
 | [],o,_,_=>by simp [dG]
 | l :: r,o,ho,hp=>by
  rw [List.pairwise_cons] at hp
  have hl:=ho l (by simp)
  simp only [dG]
  cases h0:bj c l last == 0 with
  | true=>simp
  | false =>
   rw [cond_false]
   cases h2:bj c l last == 2 with
   | true =>
    rw [cond_true,List.pairwise_cons]
    refine ⟨fun z hz=>?_,vw c last r _ hp.1 hp.2⟩
    rcases (uZ c last r _ z hz).1 with ⟨h,-⟩ | ⟨h,-⟩
    ·show o.sign < z.sign
     rw [h]; exact hl
    ·exact Int.lt_trans hl (hp.1 _ h)
   | false=>exact vw c last r _ hp.1 hp.2
theorem Jc {c:eu} {links:List Int} {z:ke} (h:z∈bn c links):(z.sign = -1∧z.fA=c.view.now.aR.kr∨z.sign∈links∧z.fA=(c.view.now.af.getD z.sign.toNat default).cj)∧(z.state=1∨z.state=2):=by
 have:=uZ c _ links _ z h
 exact ⟨this.1,this.2.symm⟩
theorem Nl {c:eu} {links:List Int} (h0:∀ y,y∈links→0≤y) (hp:links.Pairwise (· < ·)):(bn c links).Pairwise (fun a b=>a.sign < b.sign) :=
 vw c _ links _ (fun y hy=>by have:=h0 y hy; show (-1:Int) < y; omega) hp
theorem zH (c:eu) (last:Int):∀ (links:List Int) (o:ke),(dG c last links o).length≤links.length+1
 | [],o=>by simp [dG]
 | l :: r,o=>by
  simp only [dG]
  cases bj c l last == 0 with
  | true=>simp
  | false =>
   rw [cond_false]
   cases bj c l last == 2 with
   | true=>rw [cond_true,List.length_cons,List.length_cons]; have:=zH c last r { fA:=(c.view.now.af.getD l.toNat default).cj,sign:=l,state:=2 }; omega
   | false=>rw [cond_false,List.length_cons]; have:=zH c last r { o with fA:=(c.view.now.af.getD l.toNat default).cj,sign:=l }; omega
theorem BQ (c:eu) (links:List Int):(bn c links).length≤links.length+1:=zH c _ links _
def Nn (v:View) (cz:Int) (links l:List Int) (i:Nat):Bool :=
 bif ((v.now.af.getD i default).kind == 0)||((v.now.af.getD i default).kind == 1) then true else
 bif (v.now.af.getD i default).kind == 2 then ((decide (((i:Nat):Int)≤cz))&&((dP .i64 ((v.now.af.getD i default).flags) 2) == 0))&&bD links ((i:Nat):Int)
 else bD l ((v.now.af.getD i default).for_)
def vx (v:View) (part cz:Int) (links:List Int) (i:Nat) (l:List Int):List Int :=
 bif eV v ((i:Nat):Int) != part then l else bif Nn v cz links l i then l++[((i:Nat):Int)] else l
def pW (v:View) (part cz:Int) (links:List Int):Nat→List Int
 | 0=>[]
 | n+1=>vx v part cz links n (pW v part cz links n)
theorem Ah {α ι δ:Type} (n:Nat) (h:Nat→α) (pack:α→Nat→ι) {f:ι→δ ⊕ ι} {d:δ} (e:α→δ) (hs:∀ i,i < n→f (pack (h i) i)=.inr (pack (h (i+1)) (i+1))) (he:f (pack (h n) n)=.inl (e (h n))) {m:Nat} (hm:n < m):iter f d m (pack (h 0) 0)=e (h n):=by
 have key:∀ k,k≤n→∀ m,k < m→iter f d m (pack (h (n - k)) (n - k))=e (h n):=by
  intro k
  induction k with
  | zero =>
   intro _ m hm
   obtain ⟨m,rfl⟩:∃ q,m=q+1:=⟨m - 1,by omega⟩
   simp only [iter,Nat.sub_zero,he]
  | succ k ih =>
   intro hk m hm
   obtain ⟨m,rfl⟩:∃ q,m=q+1:=⟨m - 1,by omega⟩
   simp only [iter,hs (n - (k+1)) (by omega)]
   rw [show n - (k+1)+1=n - k by omega]
   exact ih (by omega) m (by omega)
 have:=key n (Nat.le_refl _) m hm
 rwa [Nat.sub_self] at this
theorem Ai (v:View) (part cz:Int) (links:List Int):aZ v part cz links=bif (cz != (-1))&&(!(bD links cz)) then [] else pW v part cz links v.now.af.length:=by
 unfold aZ fS
 dsimp +instances only [Sk.dh,Sk.gd,Sk.iZ,Sk.eQ,Sk.iG,Sk.lU,Sk.cO,gn.xS,kk,kp,bg.pq,bg.Pq,aJ,nY]
 cases (cz != (-1))&&(!(bD links cz)) with
 | true=>rfl
 | false =>
  refine congrArg (fun q=>gI q fun b=>b) (Ah v.now.af.length (pW v part cz links) (fun s i=>(s,i)) (fun s=>Sum.inr s) (fun i hi=>?_) ?_ (by omega))
  ·dsimp only
   rw [decide_eq_true (by omega),cond_true]
   show _=Sum.inr (vx v part cz links i (pW v part cz links i),i+1)
   unfold vx
   cases eV v ((i:Nat):Int) != part with
   | true=>rfl
   | false =>
    unfold Nn
    rw [cond_false,cond_false]
    cases (v.now.af.getD i default).kind == 0 with
    | true=>rfl
    | false =>
     cases (v.now.af.getD i default).kind == 1 with
     | true=>rfl
     | false =>
      cases (v.now.af.getD i default).kind == 2 with
      | true=>cases ((decide (((i:Nat):Int)≤cz))&&((dP .i64 ((v.now.af.getD i default).flags) 2) == 0))&&bD links ((i:Nat):Int) <;> rfl
      | false=>cases bD (pW v part cz links i) ((v.now.af.getD i default).for_) <;> rfl
  ·dsimp only
   rw [decide_eq_false (by omega),cond_false]
theorem contains_iff (l:List Int) (x:Int):bD l x=true↔x∈l:=by
 refine Iff.trans (zh l x) ?_
 constructor
 ·rintro ⟨q,hq,e⟩
  rw [← (beq_iff_eq.1 e:l.getD q default=x)]
  exact tK hq _
 ·intro h
  obtain ⟨i,hi,rfl⟩:=List.getElem_of_mem h
  exact ⟨i,hi,by simp [List.getD,hi]⟩
theorem rT {v:View} {part cz:Int} {links:List Int}:∀ {n:Nat} {y:Int},y∈pW v part cz links n→0≤y∧y < n∧eV v y=part∧Nn v cz links (pW v part cz links y.toNat) y.toNat=true∧∀ z,z∈pW v part cz links y.toNat→z∈pW v part cz links n
 | 0,y,h=>by cases h
 | n+1,y,h=>by
  have up:∀ z,z∈pW v part cz links n→z∈pW v part cz links (n+1):=fun z hz=>by
   show z∈vx v part cz links n (pW v part cz links n)
   unfold vx
   cases eV v ((n:Nat):Int) != part with
   | true=>exact hz
   | false =>
    cases Nn v cz links (pW v part cz links n) n with
    | true=>exact List.mem_append_left _ hz
    | false=>exact hz
  have old:y∈pW v part cz links n→0≤y∧y < ((n+1:Nat):Int)∧eV v y=part∧Nn v cz links (pW v part cz links y.toNat) y.toNat=true∧∀ z,z∈pW v part cz links y.toNat→z∈pW v part cz links (n+1):=fun hy=>by
   have:=rT hy
   exact ⟨this.1,by omega,this.2.2.1,this.2.2.2.1,fun z hz=>up z (this.2.2.2.2 z hz)⟩
  change y∈vx v part cz links n (pW v part cz links n) at h
  unfold vx at h
  cases hp:eV v ((n:Nat):Int) != part with
  | true=>rw [hp,cond_true] at h; exact old h
  | false =>
   rw [hp,cond_false] at h
   cases hi:Nn v cz links (pW v part cz links n) n with
   | false=>rw [hi,cond_false] at h; exact old h
   | true =>
    rw [hi,cond_true,List.mem_append,List.mem_singleton] at h
    rcases h with h | rfl
    ·exact old h
    ·exact ⟨by omega,by omega,by simpa using hp,by simpa using hi,fun z hz=>up z (by simpa using hz)⟩
theorem Fm (v:View) (part cz:Int) (links:List Int):∀ n,(pW v part cz links n).Pairwise (· < ·)
 | 0=>List.Pairwise.nil
 | n+1=>by
  have ih:=Fm v part cz links n
  show (vx v part cz links n (pW v part cz links n)).Pairwise (· < ·)
  unfold vx
  cases eV v ((n:Nat):Int) != part with
  | true=>exact ih
  | false =>
   cases Nn v cz links (pW v part cz links n) n with
   | false=>exact ih
   | true =>
    refine List.pairwise_append.2 ⟨ih,by simp,fun a ha b hb=>?_⟩
    simp only [List.mem_singleton] at hb
    subst hb
    exact (rT ha).2.1
theorem KT (v:View) (part cz:Int) (links:List Int):(aZ v part cz links).Pairwise (· < ·):=by
 rw [Ai]
 cases (cz != (-1))&&(!(bD links cz)) with
 | true=>exact List.Pairwise.nil
 | false=>exact Fm ..
theorem BS {v:View} {part cz:Int} {links:List Int} {y:Int} (h:y∈aZ v part cz links):(cz = -1∨cz∈links)∧y∈pW v part cz links v.now.af.length:=by
 rw [Ai] at h
 cases hc:(cz != (-1))&&(!(bD links cz)) with
 | true=>rw [hc] at h; cases h
 | false =>
  rw [hc,cond_false] at h
  refine ⟨?_,h⟩
  by_cases e:cz = -1
  ·exact .inl e
  ·refine .inr ((contains_iff links cz).1 ?_)
   have:(cz != (-1))=true:=by simpa using e
   rw [this,Bool.true_and,Bool.not_eq_eq_eq_not,Bool.not_false] at hc
   exact hc
def Dv (now:al) (i:Int):Bool:=now.aA.any fun a=>a.kind == 7&&a.at_ == i
def Fo (now:al):List Int:=((List.range now.af.length).filter fun i=>((now.af.getD i default).kind == 2)&&!(Dv now ((i:Nat):Int))).map fun i=>(now.af.getD i default).part
theorem xc {α:Type} (k k':Int) (v:α):∀ (m:List (Int × α)),pn (sJ m k v) k'=if k'=k then some v else pn m k'
 | []=>by
  simp only [sJ,pn]
  by_cases e:k'=k
  ·subst e; simp
  ·have:(k' == k)=false:=by simpa using e
   rw [this,if_neg e]; rfl
 | p :: r=>by
  have ih:=xc k k' v r
  simp only [sJ]
  cases h:k == p.1 with
  | true =>
   have h:=beq_iff_eq.1 h
   simp only [cond_true,pn]
   by_cases e:k'=k
   ·subst e; rw [← h]; simp
   ·have:(k' == p.1)=false:=by rw [← h]; simpa using e
    rw [this,if_neg e]; rfl
  | false =>
   simp only [cond_false,pn,ih]
   by_cases e:k'=k
   ·subst e; rw [h]; simp
   ·rw [if_neg e,if_neg e]
theorem U6 (aA:List bh) (p:bh→Bool) (k:Int) (m:List (Int × Bool)):Cy (aA.foldl (fun m a=>bif p a then sJ m a.at_ true else m) m) k false=(aA.any (fun a=>p a&&a.at_ == k)||Cy m k false):=by
 induction aA generalizing m with
 | nil=>rfl
 | cons a r ih =>
  rw [List.foldl_cons,ih,List.any_cons]
  cases hp:p a with
  | false=>simp
  | true =>
   simp only [cond_true,Bool.true_and]
   unfold Cy
   rw [xc]
   by_cases e:k=a.at_
   ·subst e; simp
   ·have:(a.at_ == k)=false:=by simpa using fun h:a.at_=k=>e h.symm
    rw [if_neg e,this,Bool.false_or]
theorem Aj (f:al) (day:Int):aB f day=⟨f,ai f day,day,bif (((Lib.compact (iH (Fo (ai f day)))).length:Nat):Int) == 0 then [0] else Lib.compact (iH (Fo (ai f day)))⟩:=by
 unfold aB oV
 dsimp +instances only [Sk.dh,Sk.gd,Sk.iZ,Sk.eQ,Sk.iG,Sk.lU,Sk.Mv,Sk.cO,gn.xS,kk,kp,bg.pq,bg.Pq,FB.xS,yO.xS,ch,qV,mE]
 generalize ai f day=now
 rw [oh now.aA (fun s i=>(i,s)) (fun x (s:List (Int × Bool))=>Sum.inr (bif x.kind == 7 then sJ s x.at_ true else s)) (fun s=>Sum.inr s) (fun s i hi=>?_) (fun s=>?_) (by omega) []]
 ·rw [j1 (fun (x:bh) s=>bif x.kind == 7 then sJ s x.at_ true else s)]
  simp only [tq]
  have hg:∀ k,Cy (now.aA.foldl (fun m a=>bif a.kind == 7 then sJ m a.at_ true else m) []) k false=Dv now k:=fun k=>by
   rw [U6 now.aA (fun a=>a.kind == 7) k []]
   show (_||false)=_
   rw [Bool.or_false]; rfl
  generalize now.aA.foldl (fun m a=>bif a.kind == 7 then sJ m a.at_ true else m) []=m at hg
  refine Eq.trans (congrArg (fun q=>gI q _) (Ah now.af.length (fun n=>((List.range n).filter fun i=>((now.af.getD i default).kind == 2)&&!(Dv now ((i:Nat):Int))).map fun i=>(now.af.getD i default).part) (fun s i=>(i,s)) (fun s=>Sum.inr s) (fun i hi=>?_) ?_ (by omega))) ?_
  rotate_left
  rotate_left
  ·simp only [tq]
   show (bif (((Lib.compact (iH (Fo now))).length:Nat):Int) == 0 then View.mk f now day [0] else View.mk f now day (Lib.compact (iH (Fo now))))=View.mk f now day (bif (((Lib.compact (iH (Fo now))).length:Nat):Int) == 0 then [0] else Lib.compact (iH (Fo now)))
   cases (((Lib.compact (iH (Fo now))).length:Nat):Int) == 0 <;> rfl
  ·dsimp only
   rw [decide_eq_true (by omega),cond_true,hg,List.range_succ,List.filter_append,List.map_append]
   cases hc:((now.af.getD i default).kind == 2)&&!(Dv now ((i:Nat):Int)) with
   | true=>rw [List.filter_cons_of_pos (by simpa using hc)]; rfl
   | false=>rw [List.filter_cons_of_neg (by simpa using hc)]; simp
  ·dsimp only
   rw [decide_eq_false (by omega),cond_false]
 ·rw [decide_eq_true (by omega),cond_true]
  cases (now.aA.getD i default).kind == 7 <;> rfl
 ·rw [decide_eq_false (by omega),cond_false]
theorem Qn (f:al) (day:Int):(aB f day).lead.Pairwise (· < ·):=by
 rw [Aj]
 dsimp only
 cases (((Lib.compact (iH (Fo (ai f day)))).length:Nat):Int) == 0 with
 | true=>simp
 | false=>exact (Nj _).1
def im (c_:eu) (o:ke) (sign:Int) (links:List Int) (kL:List cC):Sk (Int × Int) :=
 .r 1 ((sn c_.view sign).c) fun x1 =>
 .r 2 (.aq (.p (bG sign kL.length)) ((qJ o.state ((kL.getD sign.toNat default).binds)).c)) fun x2 =>
 .r 4 (.p (bG x1 c_.view.now.af.length)) fun _ =>
 .br (((c_.view.now.af.getD x1.toNat default).kind) == 1)
 (.br (!((c_.due != (-1))&&(decide (c_.view.day≥c_.due))))
 (.fin (0,0))
 (.fin (x2,0)))
 (.r 8 ((jI c_.view.now.aA).c) fun x3 =>
 .r 9 (.wh ((!((c_.due != (-1))&&(decide (c_.view.day≥c_.due))))&&(!x3)) false (.p (bG x1 kL.length))) fun _ =>
 .br (((!((c_.due != (-1))&&(decide (c_.view.day≥c_.due))))&&(!x3))||(!((kL.getD x1.toNat default).eI)))
 (.fin (0,0))
 (.bt
 (.loop (default:Sum (Int × Int) (Int × Int)) (fun i5=>i5.2.2≤links.length) (fun i5=>links.length - i5.2.2) ((0,1,0):Int × Int × Nat)
 (fun (i5:Int × Int × Nat)=>⟨[(16,iv i5.1),(17,iv i5.2.1),(76,iv (i5.2.2:Int))],[]⟩) fun i5 =>
 .lt 3 0 i5.2.2 links.length
 (.r 14 (.p (bG (i5.2.2:Int) links.length)) fun _ =>
 .bind false (fun _=>True)
 (.br (decide ((links.getD i5.2.2 default)≤o.sign))
 (.fin (.inr (au (i5.2.1+1))))
 (.fin (.inr i5.2.1)))
 (fun (b6:Int)=>⟨[(17,iv b6)],[]⟩) fun b6 =>
 .br ((decide ((links.getD i5.2.2 default)≤o.sign))&&(decide ((links.getD i5.2.2 default)≥x1)))
 (.nx 19 76 i5.2.2 (au (i5.1+1),b6,i5.2.2+1))
 (.nx 19 76 i5.2.2 (i5.1,b6,i5.2.2+1)))
 (.fin (.inl (.inr (i5.1,i5.2.1)))))
 (fun (b4:Int × Int)=>⟨[(16,iv b4.1),(17,iv b4.2)],[]⟩) fun b4 =>
 .r 20 ((aJ links x1).c) fun x7 =>
 .bind false (fun _=>True)
 (.br (!x7)
 (.fin (.inr b4.2))
 (.fin (.inr b4.1)))
 (fun (b8:Int)=>⟨[(16,iv b8)],[]⟩) fun b8 =>
 .r 22 (.dep ((qM c_.r c_.forum c_.view.all x1 c_.view.day).c) fun x9=>(qJ x2 x9.all).c) fun UN =>
 .fin (UN.2,b8)))
def aK c_ o sign links kL:=(im c_ o sign links kL).val
theorem BT (c_:eu) (o:ke) (sign:Int) (links:List Int) (kL:List cC) (he:kL.length=c_.view.now.af.length) (hs:0≤sign∧sign < (c_.view.now.af.length:Int)) (hc:c_.view.now=ai c_.view.all c_.view.day) (hF:cm c_.r c_.view.all) (U7:c_.view.jD) (Rc:c_.view.all.Small) (Qj:c_.r.cG) (Ni:c_.r.Small):(im c_ o sign links kL).bz (fun _=>True):=by
 unfold im
 try simp only [qM,qJ,sn,jI,aJ]
 exact oj
def pX c_ o sign links kL:=kk tok mixed Tryz.func28 [av c_.cells,av o.cells,iv sign,lv bU links,lv cC.cells kL] (fun x=>.fL [iv x.1,iv x.2]) true (im c_ o sign links kL) (aK c_ o sign links kL) (fun (h:(kL.length=c_.view.now.af.length)∧(0≤sign∧sign < (c_.view.now.af.length:Int))∧(c_.view.now=ai c_.view.all c_.view.day)∧(cm c_.r c_.view.all)∧(c_.view.jD)∧(c_.view.all.Small)∧(c_.r.cG)∧(c_.r.Small))=>BT c_ o sign links kL h.1 h.2.1 h.2.2.1 h.2.2.2.1 h.2.2.2.2.1 h.2.2.2.2.2.1 h.2.2.2.2.2.2.1 h.2.2.2.2.2.2.2)
structure AQ where
 sum:Int
 kU:Int
 xZ:Int
 exchange:Int
 Sy:Int
 rest:Int
 az:Int
 deriving Inhabited
def AQ.cells (c:AQ):List D:=[dI c.sum,dI c.kU,dI c.xZ,dI c.exchange,dI c.Sy,dI c.rest,dI c.az]
def kf (r:ah) (forum:Int) (f:al) (sign:Int) (day:Int):Sk (cC × Bool) :=
 .r 1 ((l5 r forum f day).c) fun x1 =>
 .br ((decide (sign < 0))||(decide (sign≥((x1.f.af.length:Nat):Int))))
 (.fin (({ sign:=0,kind:=0,fA:=0,binds:=0,text:=0,sum:=0,eI:=false }:cC),false))
 (.r 4 ((eB x1 sign).c) fun x2 =>
 .fin (x2,true))
def dr r forum f sign day:=(kf r forum f sign day).val
theorem Gg (r:ah) (forum:Int) (f:al) (sign:Int) (day:Int) (hP:f.pw∧f.Small):(kf r forum f sign day).cZ (fun (x:cC × Bool)=>0≤x.1.sum∧x.1.sum≤1099511627776):=by
 refine Sk.bp _ ?_
 unfold kf
 simp only [Sk.cV,Sk.aO,reduceCtorEq,ON,kk,kp,l5,eB,maxLen]
 intro x _ hx
 refine ⟨fun _=>⟨by decide,by decide⟩,fun hc y _ hy=>hy ⟨by rw [hx.1]; exact TL hP.1 day,by rw [hx.1]; exact zg hP.2 day,?_⟩⟩
 simp only [LN] at hc
 omega
theorem qN (r:ah) (forum:Int) (f:al) (sign:Int) (day:Int):(fun (x:cC × Bool)=>(f.pw∧f.Small)→(0≤x.1.sum∧x.1.sum≤1099511627776)) (dr r forum f sign day):=fun hP=>Sk.de _ (Gg r forum f sign day hP)
theorem Jd (r:ah) (forum:Int) (f:al) (sign:Int) (day:Int) (bM:f.Small) (cu:r.cG) (bN:r.Small):(kf r forum f sign day).bz (fun _=>True):=by
 refine Sk.aX _ ?_
 unfold kf
 simp only [Sk.kq,Sk.aO,reduceCtorEq,ON,kk,kp,l5,eB,maxLen]
 refine ⟨⟨bM,cu,bN⟩,fun x _ hx hc=>?_⟩
 have hS:x.f.Small:=by rw [hx.1]; exact zg bM day
 have hB:x.r.cG:=by rw [hx.2]; exact cu
 have hR:x.r.Small:=by rw [hx.2]; exact bN
 simp only [LN] at hc
 exact ⟨by omega,hS,hB,hR⟩
def rl r forum f sign day:=kk tok mixed Tryz.func66 [av r.cells,iv forum,av f.cells,iv sign,iv day] (fun x=>.fL [av x.1.cells,bv x.2]) true (kf r forum f sign day) (dr r forum f sign day) (u3 (Jd r forum f sign day)) (fun (x:cC × Bool)=>(f.pw∧f.Small)→(0≤x.1.sum∧x.1.sum≤1099511627776)) (qN r forum f sign day)
def nZ (n:Int) (fy:Int):Sk (Bool) :=
 .fin ((decide (n≥0))&&(decide (n≤fy)))
def cQ n fy:=(nZ n fy).val
theorem so (n:Int) (fy:Int):cQ n fy=((decide (n≥0))&&(decide (n≤fy))):=rfl
theorem Gh (n:Int) (fy:Int):(nZ n fy).bz (fun _=>True):=by
 unfold nZ
 exact pv
def kg n fy:=kk tok mixed Tryz.func161 [iv n,iv fy] (fun x=>bv x) true (nZ n fy) (cQ n fy) (u0 (Gh n fy))
def T8:List Nat:=[0,1,2,2,3,3,3,3,4,4,4,4,4,4,4,4]++List.replicate 16 5++List.replicate 32 6++List.replicate 64 7++List.replicate 128 8
theorem acE:∀ k,k < 256→0 < k→1≤T8.getD k 0∧T8.getD k 0≤8∧2 ^ (T8.getD k 0 - 1)≤k∧k < 2 ^ (T8.getD k 0):=by decide +kernel
theorem aaZ {x d:Int} {n t:Nat} (hd:d=2 ^ n) (h1:(2:Int) ^ (t - 1)≤x / d) (h2:x / d < 2 ^ t) (ht:1≤t):(2:Int) ^ (n+t - 1)≤x∧x < 2 ^ (n+t):=by
 subst hd
 have hp:(0:Int) < 2 ^ n:=Int.pow_pos (by omega)
 have e:=Int.mul_ediv_add_emod x (2 ^ n)
 have r0:=Int.emod_nonneg x (Int.ne_of_gt hp)
 have r1:=Int.emod_lt_of_pos x hp
 rw [show n+t - 1=n+(t - 1) by omega,Int.pow_add,Int.pow_add]
 constructor
 ·have:=Int.mul_le_mul_of_nonneg_left h1 (Int.le_of_lt hp)
  omega
 ·have:(2:Int) ^ n * (x / 2 ^ n+1)≤2 ^ n * 2 ^ t:=Int.mul_le_mul_of_nonneg_left (by omega) (Int.le_of_lt hp)
  rw [Int.mul_add] at this
  omega
theorem TQ (a:Int):dz .u64 a 32=a / 4294967296:=D2 .u64 (b:=32) (by decide)
theorem Z3 (a:Int):dz .u64 a 16=a / 65536:=D2 .u64 (b:=16) (by decide)
theorem acF (a:Int):dz .u64 a 8=a / 256:=D2 .u64 (b:=8) (by decide)
theorem Xv {x:Int} (h:0 < x) (h2:x < 256):1≤T8.getD x.toNat 0∧T8.getD x.toNat 0≤8∧(2:Int) ^ (T8.getD x.toNat 0 - 1)≤x∧x < 2 ^ (T8.getD x.toNat 0):=by
 obtain ⟨h3,h4,h5,h6⟩:=acE x.toNat (by omega) (by omega)
 refine ⟨h3,h4,?_,?_⟩
 ·have:((2 ^ (T8.getD x.toNat 0 - 1):Nat):Int)≤(x.toNat:Int):=by exact_mod_cast h5
  rw [Int.natCast_pow] at this
  have e:((2:Nat):Int)=2:=rfl
  rw [e] at this
  omega
 ·have:((x.toNat:Nat):Int) < ((2 ^ (T8.getD x.toNat 0):Nat):Int):=by exact_mod_cast h6
  rw [Int.natCast_pow] at this
  have e:((2:Nat):Int)=2:=rfl
  rw [e] at this
  omega
theorem Xw:∀ k,k < 256→((⟨#[0,1,2,2,3,3,3,3,4,4,4,4,4,4,4,4,5,5,5,5,5,5,5,5,5,5,5,5,5,5,5,5,6,6,6,6,6,6,6,6,6,6,6,6,6,6,6,6,6,6,6,6,6,6,6,6,6,6,6,6,6,6,6,6,7,7,7,7,7,7,7,7,7,7,7,7,7,7,7,7,7,7,7,7,7,7,7,7,7,7,7,7,7,7,7,7,7,7,7,7,7,7,7,7,7,7,7,7,7,7,7,7,7,7,7,7,7,7,7,7,7,7,7,7,7,7,7,7,8,8,8,8,8,8,8,8,8,8,8,8,8,8,8,8,8,8,8,8,8,8,8,8,8,8,8,8,8,8,8,8,8,8,8,8,8,8,8,8,8,8,8,8,8,8,8,8,8,8,8,8,8,8,8,8,8,8,8,8,8,8,8,8,8,8,8,8,8,8,8,8,8,8,8,8,8,8,8,8,8,8,8,8,8,8,8,8,8,8,8,8,8,8,8,8,8,8,8,8,8,8,8,8,8,8,8,8,8,8,8,8,8,8,8,8,8,8,8,8,8,8,8,8,8,8,8,8]⟩:ByteArray).data.toList.getD k 0).toNat=T8.getD k 0:=by decide +kernel
theorem u1 {x d:Int} {n t:Nat} (hd:d=2 ^ n) (h1:(2:Int) ^ (t - 1)≤x / d) (h2:x / d < 2 ^ t) (ht:1≤t) (ht8:t≤8) (hn:n≤56) {r:Int} (hr:r=(n+t:Nat)):1≤r∧r≤64∧2 ^ (r.toNat - 1)≤x∧x < 2 ^ r.toNat:=by
 subst hr
 have:=aaZ hd h1 h2 ht
 rw [Int.toNat_natCast]
 exact ⟨by omega,by omega,this.1,this.2⟩
def k6 (x_:Int):Sk (Int) :=
 .bind false (fun b1=>(0 < x_→0 < b1.1)∧0≤b1.1∧b1.1 < 4294967296∧((b1.2=0∧b1.1=x_)∨(b1.2=32∧b1.1=x_ / 4294967296)))
 (.br (decide (x_≥4294967296))
 (.r 2 (.p (0≤(32:Int))) fun _ =>
 .fin (.inr (dz .u64 x_ 32,32)))
 (.fin (.inr (x_,0))))
 (fun (b1:Int × Int)=>⟨[(0,.d (.v (.int .u64 b1.1))),(2,iv b1.2)],[]⟩) fun b1 =>
 .bind false (fun b2=>(0 < x_→0 < b2.1)∧0≤b2.1∧b2.1 < 65536∧((b2.2=0∧b2.1=x_)∨(b2.2=16∧b2.1=x_ / 65536)∨(b2.2=32∧b2.1=x_ / 4294967296)∨(b2.2=48∧b2.1=x_ / 281474976710656)))
 (.br (decide (b1.1≥65536))
 (.r 5 (.p (0≤(16:Int))) fun _ =>
 .fin (.inr (dz .u64 b1.1 16,au (b1.2+16))))
 (.fin (.inr (b1.1,b1.2))))
 (fun (b2:Int × Int)=>⟨[(0,.d (.v (.int .u64 b2.1))),(2,iv b2.2)],[]⟩) fun b2 =>
 .br (decide (b2.1≥256))
 (.r 8 (.p (0≤(8:Int))) fun _ =>
 .r 10 (.p (0≤(IntKind.u8.wrap (dz .u64 b2.1 8))∧(IntKind.u8.wrap (dz .u64 b2.1 8)) < (((⟨#[0,1,2,2,3,3,3,3,4,4,4,4,4,4,4,4,5,5,5,5,5,5,5,5,5,5,5,5,5,5,5,5,6,6,6,6,6,6,6,6,6,6,6,6,6,6,6,6,6,6,6,6,6,6,6,6,6,6,6,6,6,6,6,6,7,7,7,7,7,7,7,7,7,7,7,7,7,7,7,7,7,7,7,7,7,7,7,7,7,7,7,7,7,7,7,7,7,7,7,7,7,7,7,7,7,7,7,7,7,7,7,7,7,7,7,7,7,7,7,7,7,7,7,7,7,7,7,7,8,8,8,8,8,8,8,8,8,8,8,8,8,8,8,8,8,8,8,8,8,8,8,8,8,8,8,8,8,8,8,8,8,8,8,8,8,8,8,8,8,8,8,8,8,8,8,8,8,8,8,8,8,8,8,8,8,8,8,8,8,8,8,8,8,8,8,8,8,8,8,8,8,8,8,8,8,8,8,8,8,8,8,8,8,8,8,8,8,8,8,8,8,8,8,8,8,8,8,8,8,8,8,8,8,8,8,8,8,8,8,8,8,8,8,8,8,8,8,8,8,8,8,8,8,8,8,8]⟩:ByteArray).size:Nat):Int))) fun _ =>
 .fin (au ((au (b2.2+8))+(au ((((⟨#[0,1,2,2,3,3,3,3,4,4,4,4,4,4,4,4,5,5,5,5,5,5,5,5,5,5,5,5,5,5,5,5,6,6,6,6,6,6,6,6,6,6,6,6,6,6,6,6,6,6,6,6,6,6,6,6,6,6,6,6,6,6,6,6,7,7,7,7,7,7,7,7,7,7,7,7,7,7,7,7,7,7,7,7,7,7,7,7,7,7,7,7,7,7,7,7,7,7,7,7,7,7,7,7,7,7,7,7,7,7,7,7,7,7,7,7,7,7,7,7,7,7,7,7,7,7,7,7,8,8,8,8,8,8,8,8,8,8,8,8,8,8,8,8,8,8,8,8,8,8,8,8,8,8,8,8,8,8,8,8,8,8,8,8,8,8,8,8,8,8,8,8,8,8,8,8,8,8,8,8,8,8,8,8,8,8,8,8,8,8,8,8,8,8,8,8,8,8,8,8,8,8,8,8,8,8,8,8,8,8,8,8,8,8,8,8,8,8,8,8,8,8,8,8,8,8,8,8,8,8,8,8,8,8,8,8,8,8,8,8,8,8,8,8,8,8,8,8,8,8,8,8,8,8,8,8]⟩:ByteArray).data.toList.getD ((IntKind.u8.wrap (dz .u64 b2.1 8)).toNat) 0).toNat:Int))))))
 (.r 10 (.p (0≤(IntKind.u8.wrap (b2.1))∧(IntKind.u8.wrap (b2.1)) < (((⟨#[0,1,2,2,3,3,3,3,4,4,4,4,4,4,4,4,5,5,5,5,5,5,5,5,5,5,5,5,5,5,5,5,6,6,6,6,6,6,6,6,6,6,6,6,6,6,6,6,6,6,6,6,6,6,6,6,6,6,6,6,6,6,6,6,7,7,7,7,7,7,7,7,7,7,7,7,7,7,7,7,7,7,7,7,7,7,7,7,7,7,7,7,7,7,7,7,7,7,7,7,7,7,7,7,7,7,7,7,7,7,7,7,7,7,7,7,7,7,7,7,7,7,7,7,7,7,7,7,8,8,8,8,8,8,8,8,8,8,8,8,8,8,8,8,8,8,8,8,8,8,8,8,8,8,8,8,8,8,8,8,8,8,8,8,8,8,8,8,8,8,8,8,8,8,8,8,8,8,8,8,8,8,8,8,8,8,8,8,8,8,8,8,8,8,8,8,8,8,8,8,8,8,8,8,8,8,8,8,8,8,8,8,8,8,8,8,8,8,8,8,8,8,8,8,8,8,8,8,8,8,8,8,8,8,8,8,8,8,8,8,8,8,8,8,8,8,8,8,8,8,8,8,8,8,8,8]⟩:ByteArray).size:Nat):Int))) fun _ =>
 .fin (au (b2.2+(au ((((⟨#[0,1,2,2,3,3,3,3,4,4,4,4,4,4,4,4,5,5,5,5,5,5,5,5,5,5,5,5,5,5,5,5,6,6,6,6,6,6,6,6,6,6,6,6,6,6,6,6,6,6,6,6,6,6,6,6,6,6,6,6,6,6,6,6,7,7,7,7,7,7,7,7,7,7,7,7,7,7,7,7,7,7,7,7,7,7,7,7,7,7,7,7,7,7,7,7,7,7,7,7,7,7,7,7,7,7,7,7,7,7,7,7,7,7,7,7,7,7,7,7,7,7,7,7,7,7,7,7,8,8,8,8,8,8,8,8,8,8,8,8,8,8,8,8,8,8,8,8,8,8,8,8,8,8,8,8,8,8,8,8,8,8,8,8,8,8,8,8,8,8,8,8,8,8,8,8,8,8,8,8,8,8,8,8,8,8,8,8,8,8,8,8,8,8,8,8,8,8,8,8,8,8,8,8,8,8,8,8,8,8,8,8,8,8,8,8,8,8,8,8,8,8,8,8,8,8,8,8,8,8,8,8,8,8,8,8,8,8,8,8,8,8,8,8,8,8,8,8,8,8,8,8,8,8,8,8]⟩:ByteArray).data.toList.getD ((IntKind.u8.wrap (b2.1)).toNat) 0).toNat:Int))))))
def bits_Len64 x_:=(k6 x_).val
theorem Je (x_:Int) (hP:0 < x_∧x_ < 18446744073709551616):(k6 x_).cZ (fun (x:Int)=>1≤x∧x≤64∧2 ^ (x.toNat - 1)≤x_∧x_ < 2 ^ x.toNat):=by
 refine Sk.bp _ ?_
 unfold k6
 simp only [Sk.cV,Sk.aO,reduceCtorEq,ON,kk,kp,maxLen]
 simp only [TQ,Z3,acF,aG (n:=(32:Int)) (by decide) (by decide)] at *
 refine ⟨⟨fun hc _=>?_,fun hc=>?_⟩,fun b _ hb=>⟨⟨fun hc _=>?_,fun hc=>?_⟩,fun d _ hd=>⟨fun hc _ _=>?_,fun hc _=>?_⟩⟩⟩
 all_goals simp only [LN] at hc
 ·(try simp only [true_or,or_true,and_true,true_and]); omega
 ·(try simp only [true_or,or_true,and_true,true_and]); omega
 ·have e:au (b.2+16)=b.2+16:=aG (by omega) (by omega)
  rw [e]
  omega
 ·omega
 ·rw [Lq,Int.emod_eq_of_lt (by omega) (by omega),Xw _ (by omega)]
  have ht:=Xv (x:=d.1 / 256) (by omega) (by omega)
  rw [aG (n:=d.2+8) (by omega) (by omega),aG (n:=((T8.getD (d.1 / 256).toNat 0:Nat):Int)) (by omega) (by omega),aG (by omega) (by omega)]
  rcases hd.2.2.2 with ⟨h1,h2⟩ | ⟨h1,h2⟩ | ⟨h1,h2⟩ | ⟨h1,h2⟩
  ·exact u1 (n:=8) (d:=256) (t:=T8.getD (d.1 / 256).toNat 0) (by decide) (by rw [← h2]; exact ht.2.2.1) (by rw [← h2]; exact ht.2.2.2) ht.1 ht.2.1 (by omega) (by omega)
  ·exact u1 (n:=24) (d:=16777216) (t:=T8.getD (d.1 / 256).toNat 0) (by decide) (by rw [show x_ / 16777216=d.1 / 256 by omega]; exact ht.2.2.1) (by rw [show x_ / 16777216=d.1 / 256 by omega]; exact ht.2.2.2) ht.1 ht.2.1 (by omega) (by omega)
  ·exact u1 (n:=40) (d:=1099511627776) (t:=T8.getD (d.1 / 256).toNat 0) (by decide) (by rw [show x_ / 1099511627776=d.1 / 256 by omega]; exact ht.2.2.1) (by rw [show x_ / 1099511627776=d.1 / 256 by omega]; exact ht.2.2.2) ht.1 ht.2.1 (by omega) (by omega)
  ·exact u1 (n:=56) (d:=72057594037927936) (t:=T8.getD (d.1 / 256).toNat 0) (by decide) (by rw [show x_ / 72057594037927936=d.1 / 256 by omega]; exact ht.2.2.1) (by rw [show x_ / 72057594037927936=d.1 / 256 by omega]; exact ht.2.2.2) ht.1 ht.2.1 (by omega) (by omega)
 ·rw [Lq,Int.emod_eq_of_lt (by omega) (by omega),Xw _ (by omega)]
  have ht:=Xv (x:=d.1) (by omega) (by omega)
  rw [aG (n:=((T8.getD d.1.toNat 0:Nat):Int)) (by omega) (by omega),aG (by omega) (by omega)]
  rcases hd.2.2.2 with ⟨h1,h2⟩ | ⟨h1,h2⟩ | ⟨h1,h2⟩ | ⟨h1,h2⟩
  ·exact u1 (n:=0) (d:=1) (t:=T8.getD d.1.toNat 0) (by decide) (by rw [show x_ / 1=d.1 by omega]; exact ht.2.2.1) (by rw [show x_ / 1=d.1 by omega]; exact ht.2.2.2) ht.1 ht.2.1 (by omega) (by omega)
  ·exact u1 (n:=16) (d:=65536) (t:=T8.getD d.1.toNat 0) (by decide) (by rw [← h2]; exact ht.2.2.1) (by rw [← h2]; exact ht.2.2.2) ht.1 ht.2.1 (by omega) (by omega)
  ·exact u1 (n:=32) (d:=4294967296) (t:=T8.getD d.1.toNat 0) (by decide) (by rw [← h2]; exact ht.2.2.1) (by rw [← h2]; exact ht.2.2.2) ht.1 ht.2.1 (by omega) (by omega)
  ·exact u1 (n:=48) (d:=281474976710656) (t:=T8.getD d.1.toNat 0) (by decide) (by rw [← h2]; exact ht.2.2.1) (by rw [← h2]; exact ht.2.2.2) ht.1 ht.2.1 (by omega) (by omega)
theorem Gi (x_:Int):(fun (x:Int)=>(0 < x_∧x_ < 18446744073709551616)→(1≤x∧x≤64∧2 ^ (x.toNat - 1)≤x_∧x_ < 2 ^ x.toNat)) (bits_Len64 x_):=fun hP=>Sk.de _ (Je x_ hP)
theorem KU (x_:Int) (hx:0≤x_∧x_ < 18446744073709551616):(k6 x_).bz (fun _=>True):=by
 refine Sk.aX _ ?_
 unfold k6
 simp only [Sk.kq,Sk.aO,reduceCtorEq,ON,kk,kp,maxLen]
 simp only [TQ,Z3,acF,aG (n:=(32:Int)) (by decide) (by decide)] at *
 refine ⟨⟨fun hc=>⟨by decide,fun _=>?_⟩,fun hc=>?_⟩,fun b _ hb=>⟨⟨fun hc=>⟨by decide,fun _=>?_⟩,fun hc=>?_⟩,fun d _ hd=>⟨fun hc=>⟨by decide,fun _=>⟨?_,?_⟩⟩,fun hc=>⟨?_,?_⟩⟩⟩⟩
 all_goals simp only [LN] at hc
 ·(try simp only [true_or,or_true,and_true,true_and]); omega
 ·(try simp only [true_or,or_true,and_true,true_and]); omega
 ·have e:au (b.2+16)=b.2+16:=aG (by omega) (by omega)
  rw [e]
  omega
 ·omega
 ·rw [Lq]; omega
 ·rw [Lq,Int.emod_eq_of_lt (by omega) (by omega)]; exact (show _ < ((256:Nat):Int) by omega)
 ·rw [Lq]; omega
 ·rw [Lq,Int.emod_eq_of_lt (by omega) (by omega)]; exact (show _ < ((256:Nat):Int) by omega)
def xF x_:=kk tok mixed Tryz.func96 [.d (.v (.int .u64 x_))] (fun x=>iv x) true (k6 x_) (bits_Len64 x_) (KU x_) (fun (x:Int)=>(0 < x_∧x_ < 18446744073709551616)→(1≤x∧x≤64∧2 ^ (x.toNat - 1)≤x_∧x_ < 2 ^ x.toNat)) (Gi x_)
def dJ (x_:Int):Sk (Int) :=
 .r 1 ((xF x_).c) fun x1 =>
 .fin (au ((64:Int) - x1))
def bits_LeadingZeros64 x_:=(dJ x_).val
theorem wE (x_:Int) (hP:0 < x_∧x_ < 18446744073709551616):(dJ x_).cZ (fun (x:Int)=>0≤x∧x≤63∧9223372036854775808≤x_ * 2 ^ x.toNat∧x_ * 2 ^ x.toNat < 18446744073709551616):=by
 refine Sk.bp _ ?_
 unfold dJ
 simp only [Sk.cV,Sk.aO,reduceCtorEq,ON,kk,kp,xF,maxLen]
 intro x _ h
 obtain ⟨h1,h2,h3,h4⟩:=h hP
 rw [aG (by omega) (by omega)]
 have e1:x.toNat - 1+(64 - x).toNat=63:=by omega
 have e2:x.toNat+(64 - x).toNat=64:=by omega
 have p:(0:Int) < 2 ^ (64 - x).toNat:=Int.pow_pos (by omega)
 have q1:=Int.mul_le_mul_of_nonneg_right h3 (Int.le_of_lt p)
 have q2:=Int.mul_lt_mul_of_pos_right h4 p
 rw [← Int.pow_add,e1] at q1
 rw [← Int.pow_add,e2] at q2
 refine ⟨by omega,by omega,?_,?_⟩
 ·exact q1
 ·exact q2
theorem vz (x_:Int):(fun (x:Int)=>(0 < x_∧x_ < 18446744073709551616)→(0≤x∧x≤63∧9223372036854775808≤x_ * 2 ^ x.toNat∧x_ * 2 ^ x.toNat < 18446744073709551616)) (bits_LeadingZeros64 x_):=fun hP=>Sk.de _ (wE x_ hP)
theorem xG (x_:Int) (hx:0≤x_∧x_ < 18446744073709551616):(dJ x_).bz (fun _=>True):=by
 unfold dJ
 try simp only [xF]
 exact oj
def lj x_:=kk tok mixed Tryz.func205 [.d (.v (.int .u64 x_))] (fun x=>iv x) true (dJ x_) (bits_LeadingZeros64 x_) (xG x_) (fun (x:Int)=>(0 < x_∧x_ < 18446744073709551616)→(0≤x∧x≤63∧9223372036854775808≤x_ * 2 ^ x.toNat∧x_ * 2 ^ x.toNat < 18446744073709551616)) (vz x_)
end
end
end Go.Proofs.YtgmnlkccjlnnbaaGreatDoor
