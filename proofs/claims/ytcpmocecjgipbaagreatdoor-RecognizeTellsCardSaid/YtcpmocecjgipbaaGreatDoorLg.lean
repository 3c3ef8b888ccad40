/- A function by hand. -/
import Derived.Test.YtcpmocecjgipbaaGreatDoorLf
import Derived.RangeFuncNested
import Derived.RangeFuncBound
import Derived.RangeFuncBox
import Derived.RangeFuncFrom
import Derived.RangeFuncCalls
import Derived.RangeFuncLeaves
import Derived.Shelf.Abstract
import Derived.OwnWalkIn
import Derived.TacticsInMore
import Derived.LoopNIn
import Derived.LoopIn
set_option linter.unusedSimpArgs false
set_option linter.unusedVariables false
set_option maxHeartbeats 1000000
set_option maxRecDepth 100000
namespace Go.Proofs.YtcpmocecjgipbaaGreatDoor
noncomputable section
open Go Go.Av Go.RowKit Go.Shelf
section
attribute [local go_sem] Oper.semAt_some
set_option linter.unusedSimpArgs false
set_option linter.unusedVariables false
set_option maxHeartbeats 1000000
set_option maxRecDepth 100000
/-- Vw first open day from one day to V6 -/
def kY (c:dL):Nat→Int→Option Int
  | 0,_=>none
  | n+1,d=>bif bM c d then some d else kY c n (d+1)
def oE (c:dL) (day last:Int):Option Int:=kY c (last - day+1).toNat day
def bj (c:dL) (day:Int):Int × Int :=
  bif !(bB day) then (0,3) else match oE c day (min (ar (day+400)) 100000) with | some d=>(d,0) | none=>(0,3)
theorem Tryz.ntmps184:Tryz.f184.ntmps=21:=by kernel_rfl
theorem Tryz.ntmps127:Tryz.f127.ntmps=18:=by kernel_rfl

def eQ (c:dL):Nat→Int→List Int
  | 0,_=>[]
  | n+1,d=>bif bM c d then d :: eQ c n (d+1) else eQ c n (d+1)

theorem PV (c:dL) (d:Int) (v:Value) (w:World) (S:Nat→Prop) (hb:∀ b,S b→b < w.heap.size) (hg:iZ w S) (hr:Rd w S (.agg c.cells) v) :
    Calls Tryz.prog 185 #[v,.int .i64 d] w fun e w'=>e=.returned (.bool (bM c d))∧w.grownBy w' none:=by
  refine Calls.mono ((Dh c d).2 w S (fun _=>none) #[v,.int .i64 d] hb hg (fun ν=>⟨rfl,fun i hi=>?_⟩) (fun κ b h=>by simp [Go.Av.look] at h) (fun κ κ' b b' g c c' h=>by simp [Go.Av.look] at h)) ?_
  · match i,hi with
    | 0,_=>exact .d hr
    | 1,_=>exact gG rfl
    | i+2,hi=>simp at hi; omega
  · rintro e w' ⟨u,S',μ',rfl,B⟩
    have hu:u=.bool (bM c d):=nd (B.res fun _=>false)
    subst hu
    exact ⟨rfl,B.kept.os,B.kept.tape,B.kept.output,B.kept.size,fun k hk _=>B.kept.block k hk (fun ⟨κ,b,c,h,_⟩=>by simp [Go.Av.look] at h)⟩

theorem UN (l bf bt bc n₁ m:Nat) (c:dL) (from_ last:Int) (v0 v1 v2 v3 v4 v5:Value) (S:Nat→Prop) (J Jx:List Int→World→Prop)
    (adm : -9000000000000000000≤from_) (ND:last≤9000000000000000000) (hS:∀ b,S b→b < n₁) (ZX:bf < n₁) (hbt:bt < n₁) (V3:bc < n₁) (hJ:AbidesFrom m J)
    (hY:∀ pre x W,J pre W→pre.length < (eQ c (last - from_+1).toNat from_).length→YieldAt Fence.wide 2 Tryz.prog l #[.int .i64 x] W fun e W' =>
      (e=.returned (.bool true)∧J (pre++[x]) W'∧Below n₁ W W')∨(e=.returned (.bool false)∧Jx (pre++[x]) W'))
    (W:World) (hn₁:n₁≤W.heap.size) (hG:iZ W S) (hR:Rd W S (.agg c.cells) (.agg #[v0,v1,v2,v3,v4,v5]))
    (hBf:W.cell? ⟨bf,0,none⟩=some (.int .i64 from_)) (hBt:W.cell? ⟨bt,0,none⟩=some (.int .i64 last))
    (hC0:W.cell? ⟨bc,0,none⟩=some v0) (hC1:W.cell? ⟨bc,1,none⟩=some v1) (hC2:W.cell? ⟨bc,2,none⟩=some v2) (hC3:W.cell? ⟨bc,3,none⟩=some v3) (hC4:W.cell? ⟨bc,4,none⟩=some v4) (hC5:W.cell? ⟨bc,5,none⟩=some v5) (h0:J [] W) :
    CallsIn Fence.wide 3 Tryz.prog 184 #[.func (.yield l) #[] #[],.pointer (some ⟨bf,0,none⟩),.pointer (some ⟨bt,0,none⟩),.pointer (some ⟨bc,0,none⟩)] W fun e W'=>(∃ v,e=.returned v) ∧
      ((∃ ys,ys=eQ c (last - from_+1).toNat from_∧J ys W')∨(∃ pre,pre <+: eQ c (last - from_+1).toNat from_∧Jx pre W')):=by
  refine callsIn_of_wp Tryz.func184 rfl trivial ?_ rfl
  simp only [Tryz.ntmps184,List.size_toArray,List.length_cons,List.length_nil,Nat.reduceAdd,Nat.reduceSub,Array.replicate_succ,Array.replicate_zero,List.push_toArray,List.append_toArray,List.nil_append,List.cons_append]
  gi_wp2
  gi_loopw [5] (fun p wr=>∃ (d:Int) (pre:List Int),p=.int .i64 d∧from_≤d∧eQ c (last - from_+1).toNat from_=pre++eQ c (last - d+1).toNat d∧J pre wr∧Below n₁ W wr)
    (fun p _=>(last+1 - intOf p).toNat)
  case atStart=>exact ⟨from_,[],rfl,Int.le_refl _,rfl,h0,Below.refl _ _⟩
  case round =>
    obtain ⟨d,pre,rfl,hd,hx,hJs,zV⟩:=hrel
    have adA:wr.cell? ⟨bt,0,none⟩=some (.int .i64 last):=(zV.cell (p:=⟨bt,0,none⟩) hbt).trans hBt
    have adB:=(zV.cell (p:=⟨bc,0,none⟩) V3).trans hC0
    have adC:=(zV.cell (p:=⟨bc,1,none⟩) V3).trans hC1
    have adD:=(zV.cell (p:=⟨bc,2,none⟩) V3).trans hC2
    have adE:=(zV.cell (p:=⟨bc,3,none⟩) V3).trans hC3
    have adF:=(zV.cell (p:=⟨bc,4,none⟩) V3).trans hC4
    have adG:=(zV.cell (p:=⟨bc,5,none⟩) V3).trans hC5
    have Rq:=PV c d (.agg #[v0,v1,v2,v3,v4,v5]) wr S (fun b hb=>Nat.lt_of_lt_of_le (hS b hb) (Nat.le_trans hn₁ zV.size)) (hG.mono (fun _ h=>h) (fun b hb=>zV.block b (hS b hb))) (hR.mono (fun _ h=>h) (fun b hb=>zV.block b (hS b hb)))
    have hJ2:∀ W2,wr.grownBy W2 none→J pre W2:=fun W2 hg=>hJ pre wr W2 none hJs hg (fun r e=>by cases e)
    have YX:∀ W2,wr.grownBy W2 none→Below n₁ W W2:=fun W2 hg=>zV.trans ⟨hg.os,hg.tape,hg.output,hg.size,fun k hk=>hg.block k (Nat.lt_of_lt_of_le hk (Nat.le_trans hn₁ zV.size)) (by simp)⟩
    by_cases hle:d≤last
    · have hfu:(last - d+1).toNat=(last - (d+1)+1).toNat+1:=by omega
      cases ho:bM c d with
      | true =>
        rw [ho] at Rq
        rw [hfu,eQ,ho,cond_true] at hx
        have hlen:pre.length < (eQ c (last - from_+1).toNat from_).length:=by rw [hx]; simp
        gi_wp2
        refine ⟨trivial,(callsIn_wide.2 Rq).mono ?_⟩
        rintro e W2 ⟨rfl,Mi⟩
        obtain ⟨fn,tmps,assign,body,hy,hRR⟩:=hY pre d W2 (hJ2 W2 Mi) hlen
        gi_wp2
        refine hRR.mono ?_
        rintro e W3 (⟨rfl,hJ3,hk3⟩ | ⟨rfl,acS⟩)
        · gi_wp2
          go_roundw
          case rel=>exact ⟨d+1,pre++[d],by simp,by omega,by rw [hx]; simp,hJ3,(YX W2 Mi).trans hk3⟩
          case measure=>simp [intOf]; omega
        · gi_wp2
          refine bodyPost_ret (results_none rfl _ _ _) rfl ?_
          exact ⟨⟨_,rfl⟩,.inr ⟨pre++[d],⟨eQ c (last - (d+1)+1).toNat (d+1),by rw [hx]; simp⟩,acS⟩⟩
      | false =>
        rw [ho] at Rq
        rw [hfu,eQ,ho,cond_false] at hx
        gi_wp2
        refine ⟨trivial,(callsIn_wide.2 Rq).mono ?_⟩
        rintro e W2 ⟨rfl,Mi⟩
        gi_wp2
        refine ⟨fun _ h=>(by cases h),?_⟩
        gi_wp2
        go_roundw
        case rel=>exact ⟨d+1,pre,by simp,by omega,hx,hJ2 W2 Mi,YX W2 Mi⟩
        case measure=>simp [intOf]; omega
    · gi_wp2
      go_end0
      have h0:(last - d+1).toNat=0:=by omega
      rw [h0,eQ,List.append_nil]
      exact ⟨⟨_,rfl⟩,.inl hJs⟩

theorem Tryz.ntmps156:Tryz.f156.ntmps=8:=by kernel_rfl
theorem Wv (v0 v1 v2 v3 v4 v5:Value) (day last:Int) (w:World):CallsIn Fence.wide 3 Tryz.prog 156 #[.agg #[v0,v1,v2,v3,v4,v5],.int .i64 day,.int .i64 last] w fun e w' =>
    e=.returned (.func (.func 184) #[] #[.pointer (some ⟨w.heap.size+1,0,none⟩),.pointer (some ⟨w.heap.size+2,0,none⟩),.pointer (some ⟨w.heap.size,0,none⟩)])∧w'=((w.alloc (.cells #[v0,v1,v2,v3,v4,v5] 96)).alloc (.cells #[.int .i64 day] 3)).alloc (.cells #[.int .i64 last] 3):=by
  refine callsIn_of_wp Tryz.func156 rfl trivial ?_ rfl
  simp only [Tryz.ntmps156,List.size_toArray,List.length_cons,List.length_nil,Nat.reduceAdd,Nat.reduceSub,Array.replicate_succ,Array.replicate_zero,List.push_toArray,List.append_toArray,List.nil_append,List.cons_append]
  gi_wp2
  go_ret
  exact ⟨rfl,rfl⟩

theorem NF (d:Int) (w:World) (S:Nat→Prop) (hb:∀ b,S b→b < w.heap.size) (hg:iZ w S) :
    Calls Tryz.prog 155 #[.int .i64 d] w fun e w'=>e=.returned (.bool (bB d))∧w.grownBy w' none:=by
  refine Calls.mono ((BP d).2 w S (fun _=>none) #[.int .i64 d] hb hg (fun ν=>⟨rfl,fun i hi=>?_⟩) (fun κ b h=>by simp [Go.Av.look] at h) (fun κ κ' b b' g c c' h=>by simp [Go.Av.look] at h)) ?_
  · match i,hi with
    | 0,_=>exact gG rfl
    | i+1,hi=>simp at hi
  · rintro e w' ⟨u,S',μ',rfl,B⟩
    have hu:u=.bool (bB d):=nd (B.res fun _=>false)
    subst hu
    exact ⟨rfl,B.kept.os,B.kept.tape,B.kept.output,B.kept.size,fun k hk _=>B.kept.block k hk (fun ⟨κ,b,c,h,_⟩=>by simp [Go.Av.look] at h)⟩

theorem Di {w w':World} {S:Nat→Prop} {T:Nat→Prop} {a b:Int} (hS:∀ q,S q→q < w.heap.size) (h:Below w.heap.size w w'):∃ v S' μ',Ending.returned (.tuple #[.int .i64 a,.int .i64 b])=.returned v∧MG w S T (.ef [iv a,iv b]) [] v S' μ' w':=by
  refine ⟨_,S,fun _=>none,rfl,⟨fun ν=>.ef rfl (fun i hi=>?_),fun κ b h=>by simp [Go.Av.look] at h,fun κ κ' b b' g c c' h=>by simp [Go.Av.look] at h,fun κ b g c h=>by simp [Go.Av.look] at h,fun _ h=>h,fun _ h=>.inl h,fun q hq=>Nat.lt_of_lt_of_le (hS q hq) h.size,⟨h.os,h.tape,h.output,h.size,fun k hk _=>h.block k hk⟩⟩⟩
  match i,hi with
  | 0,_=>exact gG rfl
  | 1,_=>exact gG rfl
  | i+2,hi=>simp at hi; omega

theorem results127 (tmps:Array Value) (W:World) (b4 b5:Nat) (x y:Int) (h4:tmps.getD 4 undef=.pointer (some ⟨b4,0,none⟩)) (h5:tmps.getD 5 undef=.pointer (some ⟨b5,0,none⟩)) (hx:W.cell? ⟨b4,0,none⟩=some (.int .i64 x)) (hy:W.cell? ⟨b5,0,none⟩=some (.int .i64 y)) :
    (results Tryz.f127 tmps).run Tryz.prog W=.ok (.tuple #[.int .i64 x,.int .i64 y]) W:=by
  have e:Tryz.f127.results = #[.cell 4 3,.cell 5 47]:=by kernel_rfl
  have u3:Tryz.prog.underlying 3=some (.int .i64):=by kernel_rfl
  have u49:Tryz.prog.underlying 47=some (.int .i64):=by kernel_rfl
  have h4':tmps[4]?.getD undef=.pointer (some ⟨b4,0,none⟩):=by simpa [Array.getD_eq_getD_getElem?] using h4
  have h5':tmps[5]?.getD undef=.pointer (some ⟨b5,0,none⟩):=by simpa [Array.getD_eq_getD_getElem?] using h5
  simp [results,e,h4',h5',go_sem,run_underlying u3,run_underlying u49,hx,hy]

theorem tV (c:dL):∀ (n:Nat) (d:Int),(eQ c n d).head? = kY c n d
  | 0,_=>rfl
  | n+1,d=>by
    simp only [eQ,kY]
    cases bM c d with
    | true=>rfl
    | false=>exact tV c n (d+1)


theorem UO (c:dL) (day last t13:Int) (v0 v1 v2 v3 v4 v5:Value) (w W1:World) (S:Nat→Prop) (Q:Exit→Act→World→Prop) (aa3 : -9000000000000000000≤day) (ND:last≤9000000000000000000)
    (hb:∀ b,S b→b < w.heap.size) (hg:iZ w S) (hR:Rd w S (.agg c.cells) (.agg #[v0,v1,v2,v3,v4,v5])) (VJ:Below w.heap.size w W1) (Ww:Boxed W1 (w.heap.size+1) 3 (.int .i64 0)) (Wx:Boxed W1 (w.heap.size+1+1) 47 (.int .i64 0))
    (tm:Value→Value→Array Value) (htm:tm=fun x y=>#[Value.agg #[v0,v1,v2,v3,v4,v5],Value.int IntKind.i64 day,Value.pointer (some { block:=w.heap.size,off:=0 }),undef,Value.pointer (some { block:=w.heap.size+1,off:=0 }),
          Value.pointer (some { block:=w.heap.size+1+1,off:=0 }),y,Value.int IntKind.i64 day,Value.bool true,Value.bool false,Value.agg #[v0,v1,v2,v3,v4,v5],Value.int IntKind.i64 day,Value.int IntKind.i64 day,Value.int IntKind.i64 t13,Value.int IntKind.i64 last,
          Value.func (Fn.func 184) #[] #[Value.pointer (some { block:=W1.heap.size+1,off:=0 }),Value.pointer (some { block:=W1.heap.size+2,off:=0 }),Value.pointer (some { block:=W1.heap.size,off:=0 })],x,undef])
    (aa4:eQ c (last - day+1).toNat day=[]→∀ (D:Nat) (W:World),W1.heap.size+3≤D→Boxed W (w.heap.size+1) 3 (.int .i64 0)→Boxed W (w.heap.size+1+1) 47 (.int .i64 0)→Below w.heap.size w W→W.heap[D]? = some (.deferred (some []))→Q .normal { tmps:=tm undef undef,defers:=[{ target:=.collected D,args:=#[] }] } W)
    (aa5:∀ (x:Int) (D:Nat) (W:World),(eQ c (last - day+1).toNat day).head? = some x→W1.heap.size+3≤D→Boxed W (w.heap.size+1) 3 (.int .i64 x)→Boxed W (w.heap.size+1+1) 47 (.int .i64 0)→Below w.heap.size w W→W.heap[D]? = some (.deferred (some []))→Code.ret.wpIn Fence.wide 4 Tryz.prog Q { tmps:=tm undef undef,defers:=[{ target:=.collected D,args:=#[] }] } W) :
    Code.wpIn Fence.wide 4 Tryz.prog
    (Code.rangeFunc (Operand.tmp 15) #[16]
      (Code.region 4
        #[{ dst:=some 6,op:=Op.assign (Operand.tmp 16),type:=3,pos:= "calendar.go:125",after:=#[],
            guard:=none }]
        false)
      (Code.block 1
        ((Code.region 5
              #[{ dst:=some 17,op:=Op.move (Operand.tmp 6),type:=3,pos:= "calendar.go:126",after:=#[],
                  guard:=none },
                { dst:=none,op:=Op.store 3 (Operand.tmp 4) (Operand.tmp 17),type:=0,pos:= "calendar.go:126",
                  after:=#[{ on:=0,ground:=Ground.data },{ on:=0,ground:=Ground.phase }],guard:=none },
                { dst:=none,op:=Op.store 47 (Operand.tmp 5) (Operand.const (Value.int IntKind.i64 0)),type:=0,
                  pos:= "calendar.go:126",
                  after :=
                    #[{ on:=1,ground:=Ground.chain },{ on:=0,ground:=Ground.phase },
                      { on:=1,ground:=Ground.phase }],
                  guard:=none }]
              false).seq
          Code.ret))) Q { tmps:=tm undef undef,defers:=[] }
    (((W1.alloc (Obj.cells #[v0,v1,v2,v3,v4,v5] 96)).alloc (Obj.cells #[Value.int IntKind.i64 day] 3)).alloc
      (Obj.cells #[Value.int IntKind.i64 last] 3)):=by
  obtain ⟨W2,Td⟩:∃ W2,((W1.alloc (Obj.cells #[v0,v1,v2,v3,v4,v5] 96)).alloc (Obj.cells #[Value.int IntKind.i64 day] 3)).alloc (Obj.cells #[Value.int IntKind.i64 last] 3)=W2:=⟨_,rfl⟩
  rw [Td]
  have kI:W2.heap.size=W1.heap.size+3:=by rw [← Td]; simp
  have iR:=Ww.lt
  have aa6:=Wx.lt
  have YX:Below w.heap.size w W2:=by rw [← Td]; exact ((VJ.alloc VJ.size _).alloc (by have:=VJ.size; simp; omega) _).alloc (by have:=VJ.size; simp; omega) _
  have h42:Boxed W2 (w.heap.size+1) 3 (.int .i64 0):=by rw [← Td]; exact ((Ww.alloc _).alloc _).alloc _
  have h52:Boxed W2 (w.heap.size+1+1) 47 (.int .i64 0):=by rw [← Td]; exact ((Wx.alloc _).alloc _).alloc _
  have uj:W2.heap[W1.heap.size]? = some (.cells #[v0,v1,v2,v3,v4,v5] 96 (0,0)):=by
    rw [← Td]
    exact ((Below.heap_alloc _ _ _ (by simp; omega)).trans (Below.heap_alloc _ _ _ (by simp))).trans (World.alloc_heap_new W1 _)
  have hf2:Boxed W2 (W1.heap.size+1) 3 (.int .i64 day):=by
    rw [← Td]
    have:=(Boxed.new (W1.alloc (Obj.cells #[v0,v1,v2,v3,v4,v5] 96)) 3 (.int .i64 day)).alloc (Obj.cells #[Value.int IntKind.i64 last] 3)
    simpa using this
  have Xj:Boxed W2 (W1.heap.size+2) 3 (.int .i64 last):=by
    rw [← Td]
    have:=Boxed.new ((W1.alloc (Obj.cells #[v0,v1,v2,v3,v4,v5] 96)).alloc (Obj.cells #[Value.int IntKind.i64 day] 3)) 3 (.int .i64 last)
    simpa using this
  have Pe:∀ (x y:List Int→Int→Prop) (s:List Int) (W W':World) (row:Option Nat),(∃ q,x s q∧Boxed W (w.heap.size+1) 3 (.int .i64 q)∧Boxed W (w.heap.size+1+1) 47 (.int .i64 0)∧Below w.heap.size w W)→W.grownBy W' row→(∀ r,row=some r→W2.heap.size≤r∧∃ o:Obj,W.heap[r]? = some o∧o.isCells=false) →
      ∃ q,x s q∧Boxed W' (w.heap.size+1) 3 (.int .i64 q)∧Boxed W' (w.heap.size+1+1) 47 (.int .i64 0)∧Below w.heap.size w W':=by
    rintro x y s W W' row ⟨q,hq,b4,b5,hB⟩ Mi hr
    exact ⟨q,hq,b4.kept Mi (fun e=>by have:=(hr _ e.symm).1; omega),b5.kept Mi (fun e=>by have:=(hr _ e.symm).1; omega),hB.grown Mi hB.size (fun k e=>by have:=(hr k e).1; omega)⟩
  refine wpIn_rangeFunc_ownF (F:=Fence.wide) (n:=4) (P:=Tryz.prog) rfl (by decide) (gf:=184) (lb:=#[.pointer (some ⟨W1.heap.size+1,0,none⟩),.pointer (some ⟨W1.heap.size+2,0,none⟩),.pointer (some ⟨W1.heap.size,0,none⟩)]) (by rw [htm]; rfl) trivial (enters_of Tryz.func184 (by kernel_rfl) rfl)
    (encs:=fun x:Int=>#[.int .i64 x]) (Kp:=Below (W1.heap.size+3)) (S:=fun xs=>xs=eQ c (last - day+1).toNat day) (Sp:=fun pre=>pre <+: eQ c (last - day+1).toNat day) (N:=(eQ c (last - day+1).toNat day).length) (w0:=W2) ?seq belowK_t (belowK_b (by omega)) (Below.refl _ _) (fun _=>rfl)
    (fun pre W=>∃ q,(pre=[]∧q=0)∧Boxed W (w.heap.size+1) 3 (.int .i64 q)∧Boxed W (w.heap.size+1+1) 47 (.int .i64 0)∧Below w.heap.size w W)
    (fun cd pre W=>∃ q,(cd=.ret∧pre=[q])∧Boxed W (w.heap.size+1) 3 (.int .i64 q)∧Boxed W (w.heap.size+1+1) 47 (.int .i64 0)∧Below w.heap.size w W)
    (fun s W W' row=>Pe (fun pre q=>pre=[]∧q=0) (fun _ _=>True) s W W' row) (fun cd s W W' row=>Pe (fun pre q=>cd=.ret∧pre=[q]) (fun _ _=>True) s W W' row) ⟨0,⟨rfl,rfl⟩,h42,h52,YX⟩
    (fun x=>{ tmps:=tm (.int .i64 x) (.int .i64 x),defers:=[] }) ?assign ?body ?done ?stop
  case seq =>
    intro l J Jx W hW hJ hJx hY h0
    have hBW:Below w.heap.size w W:=YX.trans (hW.mono (by have:=YX.size; omega))
    have cc:∀ j,W.cell? ⟨W1.heap.size,j,none⟩ = #[v0,v1,v2,v3,v4,v5][j]?:=fun j=>by rw [gb W _ j _ _ _ ((hW.block _ (by omega)).trans uj)]
    exact UN l (W1.heap.size+1) (W1.heap.size+2) W1.heap.size (W1.heap.size+3) W.heap.size c day last v0 v1 v2 v3 v4 v5 S J Jx aa3 ND (fun b h=>by have:=hb b h; have:=VJ.size; omega) (by omega) (by omega) (by omega) hJ hY W (by have:=hW.size; omega)
      (hg.mono (fun _ h=>h) (fun b h=>hBW.block b (hb b h))) (hR.mono (fun _ h=>h) (fun b h=>hBW.block b (hb b h))) ((hW.cell (p:=⟨W1.heap.size+1,0,none⟩) (by simp; omega)).trans hf2.cell) ((hW.cell (p:=⟨W1.heap.size+2,0,none⟩) (by simp; omega)).trans Xj.cell) (cc 0) (cc 1) (cc 2) (cc 3) (cc 4) (cc 5) h0
  case assign =>
    intro l x W K hK
    subst htm
    gi_wp2
    exact hK
  case body =>
    rintro l pre x W ⟨q,⟨rfl,rfl⟩,b4,b5,hB⟩ _
    subst htm
    have c4:=b4.cell
    have f4:=b4.frozen
    have c5:=b5.cell
    have f5:=b5.frozen
    gi_wp2
    have q4:=b4.set (.int .i64 x)
    have q5:=(b5.other (B':=w.heap.size+1) (by omega) (.int .i64 x)).set (.int .i64 0)
    have q4':=q4.other (B':=w.heap.size+1+1) (by omega) (.int .i64 0)
    exact ⟨(KeepsOthers.setCell _ _ _).trans (KeepsOthers.setCell _ _ _),x,⟨rfl,rfl⟩,q4',q5,(hB.setCell (p:=⟨w.heap.size+1,0,none⟩) (by simp) _).setCell (p:=⟨w.heap.size+1+1,0,none⟩) (by simp; omega) _⟩
  case done =>
    rintro D xs W hD hx ⟨q,⟨rfl,rfl⟩,b4,b5,hB⟩ hK
    exact aa4 hx.symm D W (by omega) b4 b5 hB hK
  case stop =>
    rintro D cd pre W hD ⟨t,hp⟩ ⟨q,⟨rfl,rfl⟩,b4,b5,hB⟩ hK
    exact aa5 q D W (by rw [← hp]; rfl) (by omega) b4 b5 hB hK

theorem Dj (c:dL) (day:Int):iU Tryz.prog 127 [av c.cells,iv day] [] (.ef [iv (bj c day).1,iv (bj c day).2]) []:=by
  refine ⟨by kernel_rfl,fun w S μ vs hb hg hr _ _=>?_⟩
  obtain ⟨v0,v1,v2,v3,v4,v5,rfl,hR⟩:∃ v0 v1 v2 v3 v4 v5:Value,vs = #[.agg #[v0,v1,v2,v3,v4,v5],.int .i64 day]∧Rd w S (.agg c.cells) (.agg #[v0,v1,v2,v3,v4,v5]):=by
    obtain ⟨hl,h⟩:=hr fun _=>false
    have h0:=gT.1 (h 0 (by simp))
    have h1:=dU (h 1 (by simp))
    match vs,hl with
    | ⟨[a,b]⟩,_ =>
      simp only [List.getD_cons_zero,List.getD_cons_succ] at h0 h1
      subst h1
      cases h0 with
      | agg _ xs hx hh =>
        match xs,hx with
        | ⟨[x0,x1,x2,x3,x4,x5]⟩,_=>exact ⟨x0,x1,x2,x3,x4,x5,rfl,.agg _ _ rfl hh⟩
  refine callsIn_wide.1 (callsIn_of_wp_marks (n:=4) Tryz.func127 rfl trivial ?_ rfl)
  simp only [Tryz.ntmps127,List.size_toArray,List.length_cons,List.length_nil,Nat.reduceAdd,Nat.reduceSub,Array.replicate_succ,Array.replicate_zero,List.push_toArray,List.append_toArray,List.nil_append,List.cons_append]
  obtain ⟨W0,hW0⟩:∃ W0,((w.alloc (Obj.cells #[v0,v1,v2,v3,v4,v5] 96)).alloc (Obj.cells #[Value.int IntKind.i64 0] 3)).alloc (Obj.cells #[Value.int IntKind.i64 0] 47)=W0:=⟨_,rfl⟩
  have adH:W0.heap.size=w.heap.size+3:=by rw [← hW0]; simp
  have hB0:Below w.heap.size w W0:=by rw [← hW0]; exact (((Below.refl _ w).alloc (Nat.le_refl _) _).alloc (by simp) _).alloc (by simp; omega) _
  have S6:W0.heap[w.heap.size]? = some (.cells #[v0,v1,v2,v3,v4,v5] 96 (0,0)):=by
    rw [← hW0]
    exact ((Below.heap_alloc _ _ _ (by simp; omega)).trans (Below.heap_alloc _ _ _ (by simp))).trans (World.alloc_heap_new w _)
  have h4:Boxed W0 (w.heap.size+1) 3 (.int .i64 0):=by
    rw [← hW0]
    have:=(Boxed.new (w.alloc (Obj.cells #[v0,v1,v2,v3,v4,v5] 96)) 3 (.int .i64 0)).alloc (Obj.cells #[Value.int IntKind.i64 0] 47)
    simpa using this
  have h5:Boxed W0 (w.heap.size+1+1) 47 (.int .i64 0):=by
    rw [← hW0]
    have:=Boxed.new ((w.alloc (Obj.cells #[v0,v1,v2,v3,v4,v5] 96)).alloc (Obj.cells #[Value.int IntKind.i64 0] 3)) 47 (.int .i64 0)
    simpa using this
  have Ui:=NF day W0 S (fun b h=>by have:=hb b h; omega) (hg.mono (fun _ h=>h) (fun b h=>hB0.block b (hb b h)))
  gi_wp2
  refine ⟨trivial,(callsIn_wide.2 Ui).mono ?_⟩
  rintro e W1 ⟨rfl,Mi⟩
  have VJ:Below w.heap.size w W1:=hB0.trans ⟨Mi.os,Mi.tape,Mi.output,Mi.size,fun k hk=>Mi.block k (by omega) (by simp)⟩
  have R6:W1.heap[w.heap.size]? = some (.cells #[v0,v1,v2,v3,v4,v5] 96 (0,0)):=(Mi.block _ (by omega) (by simp)).trans S6
  have Ww:=h4.kept Mi (by simp)
  have Wx:=h5.kept Mi (by simp)
  have h4c:=Ww.cell
  have h4f:=Ww.frozen
  have h5c:=Wx.cell
  have h5f:=Wx.frozen
  cases hv:bB day with
  | false =>
    gi_wp2
    have q4:=Ww.set (.int .i64 0)
    have q5:=(Wx.other (B':=w.heap.size+1) (by omega) (.int .i64 0)).set (.int .i64 3)
    have q4':=q4.other (B':=w.heap.size+1+1) (by omega) (.int .i64 3)
    refine ⟨_,results127 _ _ _ _ 0 3 rfl rfl q4'.cell q5.cell,?_⟩
    have e:bj c day=(0,3):=by simp [bj,hv]
    rw [e]
    exact Di hb ((VJ.setCell (p:=⟨w.heap.size+1,0,none⟩) (by simp) _).setCell (p:=⟨w.heap.size+1+1,0,none⟩) (by simp; omega) _)
  | true =>
    have e0:W1.cell? ⟨w.heap.size,0,none⟩=some v0:=by rw [gb W1 _ 0 _ _ _ R6]; rfl
    have e1:W1.cell? ⟨w.heap.size,1,none⟩=some v1:=by rw [gb W1 _ 1 _ _ _ R6]; rfl
    have e2:W1.cell? ⟨w.heap.size,2,none⟩=some v2:=by rw [gb W1 _ 2 _ _ _ R6]; rfl
    have e3:W1.cell? ⟨w.heap.size,3,none⟩=some v3:=by rw [gb W1 _ 3 _ _ _ R6]; rfl
    have e4:W1.cell? ⟨w.heap.size,4,none⟩=some v4:=by rw [gb W1 _ 4 _ _ _ R6]; rfl
    have e5:W1.cell? ⟨w.heap.size,5,none⟩=some v5:=by rw [gb W1 _ 5 _ _ _ R6]; rfl
    have aa3:0≤day∧day≤100000:=by simpa [bB,iq] using hv
    have Kh:ar (day+400)=day+400:=az (by omega) (by omega)
    gi_wp2
    all_goals (refine ⟨trivial,(Wv v0 v1 v2 v3 v4 v5 day _ W1).mono ?_⟩; rintro e W2 ⟨rfl,rfl⟩; gi_wp2; refine UO c day _ _ v0 v1 v2 v3 v4 v5 w W1 S _ (by omega) ?_ hb hg hR VJ Ww Wx _ rfl ?_ ?_)
    all_goals first
      | omega
      | (intro Ml D W hD b4 b5 hB hK
         have c4:=b4.cell
         have f4:=b4.frozen
         have c5:=b5.cell
         have f5:=b5.frozen
         gi_wp2
         have q4:=(b4.set (.int .i64 0)).other (B':=w.heap.size+1+1) (by omega) (.int .i64 3)
         have q5:=(b5.other (B':=w.heap.size+1) (by omega) (.int .i64 0)).set (.int .i64 3)
         have iR:=Ww.lt
         have aa6:=Wx.lt
         have hK':=((KeepsOthers.setCell W ⟨w.heap.size+1,0,none⟩ (.int .i64 0)).trans (KeepsOthers.setCell _ ⟨w.heap.size+1+1,0,none⟩ (.int .i64 3))).same D _ hK rfl
         have hB':=(hB.setCell (p:=⟨w.heap.size+1,0,none⟩) (by simp) (.int .i64 0)).setCell (p:=⟨w.heap.size+1+1,0,none⟩) (by simp; omega) (.int .i64 3)
         refine ⟨by simp,.inl ⟨_,_,rfl,run_takeDeferred hK',?_⟩⟩
         refine ⟨_,results127 _ _ _ _ 0 3 rfl rfl (q4.kept (grownBy_putObj' _ D _) (fun e=>by cases e; omega)).cell (q5.kept (grownBy_putObj' _ D _) (fun e=>by cases e; omega)).cell,?_⟩
         have e:bj c day=(0,3):=by
           simp only [bj,hv,oE,← tV]
           first
             | (rw [show min (ar (day+400)) 100000=100000 from by rw [Kh]; omega,Ml]; rfl)
             | (rw [show min (ar (day+400)) 100000=day+400 from by rw [Kh]; omega,Ml]; rfl)
             | (rw [Kh,Ml]; rfl)
             | (rw [Ml]; rfl)
         rw [e]
         exact Di hb (hB'.grown (grownBy_putObj' _ D _) hB'.size (fun k e=>by cases e; have:=VJ.size; omega)))
      | (intro x D W hx hD b4 b5 hB hK
         gi_wp2
         have iR:=Ww.lt
         have aa6:=Wx.lt
         refine ⟨by simp,.inl ⟨_,_,rfl,run_takeDeferred hK,?_⟩⟩
         refine ⟨_,results127 _ _ _ _ x 0 rfl rfl (b4.kept (grownBy_putObj' _ D _) (fun e=>by cases e; omega)).cell (b5.kept (grownBy_putObj' _ D _) (fun e=>by cases e; omega)).cell,?_⟩
         have e:bj c day=(x,0):=by
           simp only [bj,hv,oE,← tV]
           first
             | (rw [show min (ar (day+400)) 100000=100000 from by rw [Kh]; omega,hx]; rfl)
             | (rw [show min (ar (day+400)) 100000=day+400 from by rw [Kh]; omega,hx]; rfl)
             | (rw [Kh,hx]; rfl)
             | (rw [hx]; rfl)
         rw [e]
         exact Di hb (hB.grown (grownBy_putObj' _ D _) hB.size (fun k e=>by cases e; have:=VJ.size; omega)))
theorem D1 (c:dL):∀ (n:Nat) (d x:Int),kY c n d=some x→d≤x∧x < d+n
  | 0,_,_,h=>by simp [kY] at h
  | n+1,d,x,h=>by
    simp only [kY] at h
    cases ho:bM c d with
    | true=>rw [ho] at h; simp only [cond_true,Option.some.injEq] at h; omega
    | false=>rw [ho] at h; have:=D1 c n (d+1) x h; omega
theorem mL (c:dL) (day:Int):(fun (x:Int × Int)=>x.2=0→day≤x.1∧x.1≤100000) (bj c day):=by
  dsimp only
  unfold bj
  cases hv:bB day with
  | false=>intro h; exact absurd (show (3:Int)=0 from h) (by decide)
  | true =>
    simp only [Bool.not_true,cond_false]
    cases hd:oE c day (min (ar (day+400)) 100000) with
    | none=>intro h; exact absurd (show (3:Int)=0 from h) (by decide)
    | some d =>
      intro _
      have:=D1 c _ _ _ hd
      simp only
      omega
def qt (c:dL) (day:Int):eo (Int × Int):=⟨Tryz.prog,127,[av c.cells,iv day],fun x=>.ef [iv x.1,iv x.2],true,bj c day,True,fun _=>Dj c day,fun x=>x.2=0→day≤x.1∧x.1≤100000,mL c day⟩
end
section
open Go Go.Av
inductive dc (r:af) (o:Int) (c:dL):Int→Int × Int→Prop
 | stop {d s:Int}:sa r o d s→(bj c s).2≠0→dc r o c d (0,3)
 | here {d s:Int}:sa r o d s→(bj c s).2=0→(bj c s).1=s→dc r o c d (s,0)
 | go {d s:Int} {x:Int × Int}:sa r o d s→(bj c s).2=0→(bj c s).1≠s→dc r o c (bj c s).1 x→dc r o c d x
theorem dc.uniq {r:af} {o:Int} {c:dL} {d:Int} {x y:Int × Int} (h:dc r o c d x) (k:dc r o c d y):x=y:=by
 induction h with
 | stop a b =>
  cases k with
  | stop _ _=>rfl
  | here a2 b2 _=>rw [a.uniq a2] at b; exact absurd b2 b
  | go a2 b2 _ _=>rw [a.uniq a2] at b; exact absurd b2 b
 | here a b e =>
  cases k with
  | stop a2 b2=>rw [a.uniq a2] at b; exact absurd b b2
  | here a2 _ _=>rw [a.uniq a2]
  | go a2 _ e2 _=>rw [a.uniq a2] at e; exact absurd e e2
 | go a b e h ih =>
  cases k with
  | stop a2 b2=>rw [a.uniq a2] at b; exact absurd b b2
  | here a2 _ e2=>rw [a.uniq a2] at e; exact absurd e2 e
  | go a2 _ _ k2=>exact ih (by rw [a.uniq a2]; exact k2)
theorem dc.back {r:af} {o:Int} {c:dL} {d n:Int} {x:Int × Int} (h:dc r o c n x) (hd:d≤n) (hh:∀ y,d≤y→y < n→m6 r o y=true):dc r o c d x:=by
 cases h with
 | stop a b=>exact .stop (a.back hd hh) b
 | here a b e=>exact .here (a.back hd hh) b e
 | go a b e k=>exact .go (a.back hd hh) b e k
def g7 (r:af) (aJ:Int) (day:Int):Sk (Int × Int) :=
 .r 1 ((cH r aJ).c) fun x1 =>
 .loop (default:Int × Int) (fun i2=>((0:Int)≤i2∧i2≤100001)∧∀ x,dc r (aV r aJ) (r.aC.getD aJ.toNat default) i2 x→dc r (aV r aJ) (r.aC.getD aJ.toNat default) day x) (fun i2=>(100001 - i2).toNat) (day:Int)
 (fun (i2:Int)=>⟨[(2,iv i2)],[]⟩) fun i2 =>
 .r 2 ((vF r x1 i2).c) fun x3 =>
 .r 3 (.au (.p (bz aJ r.aC.length)) ((qt (r.aC.getD aJ.toNat default) x3).c)) fun x4 =>
 .br (x4.2 != 0)
 (.fin (.inl (0,3)))
 (.br (x4.1 == x3)
 (.fin (.inl (x3,0)))
 (.fin (.inr x4.1)))
def jN r aJ day:=(g7 r aJ day).val
theorem Dk (r:af) (aJ:Int) (day:Int) (hP:(0≤aJ∧aJ < (r.aC.length:Int))∧(0≤day∧day≤100001)∧r.ba):(g7 r aJ day).dz (fun (x:Int × Int)=>(x.2=0→0≤x.1∧x.1≤100001)∧dc r (aV r aJ) (r.aC.getD aJ.toNat default) day x):=by
 refine Sk.bq _ ?_
 unfold g7
 simp only [Sk.cV,Sk.aU,reduceCtorEq,ON,kk,kp,qt,cH,vF,af.ba,maxLen]
 obtain ⟨hc,hd,hh⟩:=hP
 intro _ hx
 subst hx
 refine ⟨⟨hd,fun x h=>h⟩,fun i hi y hy hyp x hx ZY=>?_⟩
 obtain ⟨h2,h3⟩:=hyp ⟨hh,hi.1⟩
 subst hx
 refine ⟨fun he=>⟨fun h=>absurd h (by decide),hi.2 _ (.stop h3 (bne_iff_ne.1 he))⟩,fun he=>⟨fun hq=>⟨by omega,hi.2 _ ?_⟩,fun hq=>⟨⟨?_,fun z hz=>hi.2 _ (.go h3 ?_ ?_ hz)⟩,?_⟩⟩⟩
 all_goals simp only [LN] at he hq
 ·exact dc.here h3 he hq
 ·have:=ZY he; omega
 ·exact he
 ·exact hq
 ·have:=ZY he; omega
theorem tf (r:af) (aJ:Int) (day:Int):(fun (x:Int × Int)=>((0≤aJ∧aJ < (r.aC.length:Int))∧(0≤day∧day≤100001)∧r.ba)→((x.2=0→0≤x.1∧x.1≤100001)∧dc r (aV r aJ) (r.aC.getD aJ.toNat default) day x)) (jN r aJ day):=fun hP=>have h:=Sk.dA _ (Dk r aJ day hP); h
theorem EX (r:af) (aJ:Int) (day:Int) (hc:0≤aJ∧aJ < (r.aC.length:Int)) (hd:0≤day∧day≤100001) (hh:r.ba):(g7 r aJ day).bE (fun _=>True):=by
 simp only [af.ba] at hh
 refine Sk.bm _ ?_
 unfold g7
 simp only [Sk.j2,Sk.aU,reduceCtorEq,ON,kk,kp,qt,cH,vF,af.ba,maxLen]
 intro _ hx
 subst hx
 refine ⟨⟨hd,fun x h=>h⟩,fun i hi=>⟨⟨hh,hi.1⟩,fun y hy hyp=>⟨hc,fun x hx ZY he hq=>?_⟩⟩⟩
 obtain ⟨h2,h3⟩:=hyp ⟨hh,hi.1⟩
 subst hx
 simp only [LN] at he hq
 have:=ZY he
 exact ⟨⟨by omega,fun z hz=>hi.2 _ (.go h3 he hq hz)⟩,by omega⟩
def sb r aJ day:=kk tok mixed Tryz.func88 [av r.cells,iv aJ,iv day] (fun x=>.ef [iv x.1,iv x.2]) true (g7 r aJ day) (jN r aJ day) (u3 (EX r aJ day)) (fun (x:Int × Int)=>((0≤aJ∧aJ < (r.aC.length:Int))∧(0≤day∧day≤100001)∧r.ba)→((x.2=0→0≤x.1∧x.1≤100001)∧dc r (aV r aJ) (r.aC.getD aJ.toNat default) day x)) (tf r aJ day)
def nF (r:af) (b:jT) (seen:Int) (cE:Int):Sk (Int × Int) :=
 .r 2 (.dep ((iO r).c) fun x1=>.dep (.wh (x1 != 0) false ((nA r b.aJ).c)) fun x2=>.dep (.wh ((x1 != 0)||(!x2)) false ((nA r b.qC).c)) fun x3=>.wh (((x1 != 0)||(!x2))||(!x3)) false ((lU b.day).c)) fun Sv =>
 .br ((((Sv.1 != 0)||(!Sv.2.1))||(!Sv.2.2.1))||(!Sv.2.2.2))
 (.fin (0,1))
 (.br ((((decide (b.aE.kind < 0))||(decide (b.aE.kind≥5)))||(decide (b.aE.unit < 0)))||(decide (b.aE.unit≥2)))
 (.fin (0,1))
 (.r 6 (.wh (seen != (-1)) true ((lU seen).c)) fun x5 =>
 .br ((((seen != (-1))&&(!x5))||(decide (cE < 0)))||(decide (cE > 20000)))
 (.fin (0,1))
 (.r 8 ((rY b.aE).c) fun x6 =>
 .br (x6&&(seen == (-1)))
 (.fin (0,4))
 (.r 10 ((vE r b seen).c) fun x7 =>
 .br (x7.2 != 0)
 (.fin (0,x7.2))
 (.r 13 ((lU x7.1).c) fun x8 =>
 .br ((!x8)||(decide ((ar (x7.1+cE)) > 100000)))
 (.fin (0,3))
 (.r 15 ((sb r b.qC (ar (x7.1+cE))).c) fun x9 =>
 .fin (x9.1,x9.2)))))))
def yI r b seen cE:=(nF r b seen cE).val
theorem I2 (r:af) (b:jT) (seen:Int) (cE:Int):(nF r b seen cE).dz (fun (x:Int × Int)=>x.2=0→0≤x.1∧x.1≤100001):=by
 refine Sk.bq _ ?_
 unfold nF
 simp only [Sk.cV,Sk.aU,reduceCtorEq,ON,kk,kp,iO,rY,vE,nA,lU,sb,wG,wF,xP,forall_eq,aD.Small,af.Small,af.ba,maxLen]
 intro hr
 refine ⟨fun _ h=>absurd h (by decide),fun h1=>⟨fun _ h=>absurd h (by decide),fun _=>⟨fun _ h=>absurd h (by decide),fun h3=>⟨fun _ h=>absurd h (by decide),fun _=>⟨fun h h'=>by rw [h'] at h; exact absurd h (by decide),fun h4=>⟨fun _ h=>absurd h (by decide),fun h5 himp=>?_⟩⟩⟩⟩⟩⟩
 simp only [LN] at h1 h5
 have e:∀ x g:Int,0≤x∧x≤100000→0≤g∧g≤20000→0≤ar (x+g):=fun x g h1 h2=>by rw [az (by omega) (by omega)]; omega
 have h6:0≤cE∧cE≤20000:=by simp only [LN] at h3; omega
 exact (himp ⟨by omega,⟨e _ _ h5.1 h6,by omega⟩,hr h1.1.1.1⟩).1
theorem Lo (r:af) (b:jT) (seen:Int) (cE:Int) (bG:r.Small):(nF r b seen cE).bE (fun _=>True):=by
 simp only [aD.Small,af.Small,af.ba] at bG
 unfold nF
 try simp only [iO,rY,vE,nA,lU,sb,wG,wF,xP,aD.Small,af.Small,af.ba]
 exact qJ
def D2 r b seen cE:=kp tok mixed Tryz.func63 [av r.cells,av b.cells,iv seen,iv cE] (fun x=>.ef [iv x.1,iv x.2]) true (yI r b seen cE) (Lo r b seen cE) (I2 r b seen cE)
def mA (r:af) (aj:Int) (f:aD) (day:Int):Sk (Int) :=
 .r 1 ((kN f day).c) fun x1 =>
 .br (((x1.ai.length:Nat):Int) == 0)
 (.fin (-1))
 (.r 4 (.dep ((GY r aj 6 x1 day).c) fun x2=>(BC x2).c) fun p7 =>
 .r 5 (.dep ((zC x1).c) fun x4=>(D2 r x1.aA x4 (cp p7.2 0)).c) fun p6 =>
 .br (p6.2.2 != 0)
 (.fin (-1))
 (.fin p6.2.1))
def nG r aj f day:=(mA r aj f day).val
theorem EY (r:af) (aj:Int) (f:aD) (day:Int) (cA:f.Small) (db:r.ck) (bG:r.Small):(mA r aj f day).bE (fun _=>True):=by
 simp only [aD.Small,af.Small,af.ck] at cA
 simp only [aD.Small,af.Small,af.ck] at db
 simp only [aD.Small,af.Small,af.ck] at bG
 unfold mA
 try simp only [GY,BC,kN,zC,D2,aD.Small,af.Small,af.ck]
 exact oj
def xQ r aj f day:=kk tok mixed Tryz.func34 [av r.cells,iv aj,av f.cells,iv day] (fun x=>iv x) true (mA r aj f day) (nG r aj f day) (u3 (EY r aj f day))
theorem NG (r:af) (fo:Int) (f:aD) (day:Int):nG r fo f day = 
  bif ((bn f day).ai.length:Int) == 0 then -1 else (fun p:Int × Int=>bif p.2 != 0 then -1 else p.1) (yI r (bn f day).aA (pR (bn f day)) (cp (kS (kR r fo 6 (bn f day) day)) 0)):=by
 kernel_rfl
def vG (s:lO):Sk (Int) :=
 .br (s.err != 0)
 (.fin 0)
 (.br (!s.cell.known)
 (.fin 2)
 (.br (s.cell.n != 0)
 (.fin 1)
 (.fin 0)))
def Ft s:=(vG s).val
theorem PW (s:lO):(vG s).bE (fun _=>True):=by
 unfold vG
 exact mY
def Ki s:=kk tok mixed Tryz.func35 [av s.cells] (fun x=>iv x) true (vG s) (Ft s) (u0 (PW s))
def fO (r:af) (aj:Int) (f:aD) (j:aQ) (day:Int):Sk (Int) :=
 .r 1 (.dep ((cB r f j).c) fun x1=>.wh (x1 != 0) false ((aR aj ((r.al.length:Nat):Int)).c)) fun p7 =>
 .br ((((p7.1 != 0)||(!p7.2))||(decide (day < j.day)))||(decide (day > 100000)))
 (.fin 0)
 (.br (aj == j.fq)
 (.fin 1)
 (.r 5 ((xQ r aj f day).c) fun x3 =>
 .r 6 (.dep ((yG r aj 19 ({ file:=f,sign:=j.sign,cF:=j.sign,fL:=(-1),due:=x3,day:=day }:cy)).c) fun x4=>(Ki x4).c) fun p6 =>
 .fin p6.2))
def fH r aj f j day:=(fO r aj f j day).val
theorem uQ (r:af) (aj:Int) (f:aD) (j:aQ) (day:Int) (cA:f.Small) (db:r.ck) (bG:r.Small):(fO r aj f j day).bE (fun _=>True):=by
 simp only [aD.Small,af.Small,af.ck] at cA
 simp only [aD.Small,af.Small,af.ck] at db
 simp only [aD.Small,af.Small,af.ck] at bG
 unfold fO
 try simp only [yG,xQ,Ki,cB,aR,eW,aD.Small,af.Small,af.ck]
 exact qJ
def ca r aj f j day:=kk tok mixed Tryz.func15 [av r.cells,iv aj,av f.cells,av j.cells,iv day] (fun x=>iv x) true (fO r aj f j day) (fH r aj f j day) (u3 (uQ r aj f j day))
def iz (r:af) (aj:Int) (f:aD) (j:aQ) (l:List aw) (day:Int):Sk (Int × Int) :=
 .r 1 ((eu r f j l day).c) fun x1 =>
 .br (x1.2 != 0)
 (.fin (0,x1.2))
 (.r 4 ((aR aj ((r.al.length:Nat):Int)).c) fun x2 =>
 .br ((!x2)||(decide (day < j.day)))
 (.fin (0,1))
 (.r 6 ((ca r aj f j day).c) fun x3 =>
 .br (x3 == 0)
 (.fin (0,4))
 (.br (x3 == 2)
 (.fin (0,17))
 (.r 11 ((g0 r.ak j.sum j.aq f.aA.aq j.day).c) fun x4 =>
 .br (x4.2 != 0)
 (.fin (0,x4.2))
 (.fin (cp (ar (x4.1 - x1.1)) 0,0))))))
def cU r aj f j l day:=(iz r aj f j l day).val
theorem BT (r:af) (aj:Int) (f:aD) (j:aQ) (l:List aw) (day:Int) (cA:f.Small) (db:r.ck) (bG:r.Small):(iz r aj f j l day).bE (fun _=>True):=by
 simp only [aD.Small,af.Small,af.ck] at cA
 simp only [aD.Small,af.Small,af.ck] at db
 simp only [aD.Small,af.Small,af.ck] at bG
 unfold iz
 try simp only [g0,eu,ca,aR,eW,aD.Small,af.Small,af.ck]
 exact qJ
def cX r aj f j l day:=kk tok mixed Tryz.func8 [av r.cells,iv aj,av f.cells,av j.cells,lv aw.cells l,iv day] (fun x=>.ef [iv x.1,iv x.2]) true (iz r aj f j l day) (cU r aj f j l day) (u3 (BT r aj f j l day))
def uR (r:af) (f:aD) (j:aQ) (day:Int) (x:aw) (n:Int):(Int × Int) ⊕ Int :=
 bif ((x.aA != j.aA)||(x.bZ != j.aP))||decide (x.day > day) then .inr n
 else bif (bF r.ak x.sum x.aq f.aA.aq x.day).2 != 0 then .inl (0,(bF r.ak x.sum x.aq f.aA.aq x.day).2)
 else .inr (ar (n+(bF r.ak x.sum x.aq f.aA.aq x.day).1))
def recv (r:af) (f:aD) (j:aQ) (day:Int) (l:List aw):Int × Int:=walk (uR r f j day) (fun n=>(n,0)) l 0
theorem D3 (r:af) (f:aD) (j:aQ) (l:List aw) (day:Int):bH r f j l day =
  bif (fa r f j != 0)||!(aW day 100001) then (0,1) else bif decide ((l.length:Int) > 200) then (0,6) else bif dw l r then (0,1) else recv r f j day l:=by
 simp only [bH,fw,Sk.bU,Sk.aZ,Sk.aN,Sk.cu,Sk.cS,bD.Br,bD.PN,eo.qB,kk,kp,cB,aR,iI]
 congr 1
 congr 1
 congr 1
 unfold recv
 refine a9 l (fun s i=>(s,i)) (uR r f j day) id (fun b4=>(b4,0)) (fun s i hi=>?_) (fun s=>?_) (by simp) 0
 ·simp only [Sk.bQ,Sk.aZ,Sk.bU,Sk.cw,Sk.aN,eo.qB,kk,kp,g0]
  rw [decide_eq_true (by omega),cond_true]
  unfold uR
  cases (((l.getD i default).aA != j.aA||(l.getD i default).bZ != j.aP)||decide ((l.getD i default).day > day)) with
  | true=>rfl
  | false=>cases ((bF r.ak (l.getD i default).sum (l.getD i default).aq f.aA.aq (l.getD i default).day).2 != 0) <;> rfl
 ·simp only [Sk.bQ,Sk.aZ,Sk.bU,Sk.cw,Sk.aN]
  rw [decide_eq_false (by omega),cond_false]
  rfl
theorem Rs (r:af) (aj:Int) (f:aD) (j:aQ) (l:List aw) (day:Int):cU r aj f j l day =
  bif (bH r f j l day).2 != 0 then (0,(bH r f j l day).2) else bif (!(aW aj r.al.length))||decide (day < j.day) then (0,1)
  else bif fH r aj f j day == 0 then (0,4) else bif fH r aj f j day == 2 then (0,17)
  else bif (bF r.ak j.sum j.aq f.aA.aq j.day).2 != 0 then (0,(bF r.ak j.sum j.aq f.aA.aq j.day).2)
  else (cp (ar ((bF r.ak j.sum j.aq f.aA.aq j.day).1 - (bH r f j l day).1)) 0,0):=by
 simp only [cU,iz,Sk.bU,Sk.aZ,Sk.aN,eo.qB,kk,kp,eu,aR,ca,g0]
def fX (s:List aw):Sk ((List aw)) :=
 .O2 0 s.length
 (.K7 <|
 .fin [])
 (.K8 <|
 .r 3 (.au (.o [.dy (gr aw.E ([]:List aw))]) (.au (.o [.dy (nY aw.E ([]:List aw) s)]) (.au (.t (aw.E.src s)) (.p (zb (([]:List aw).length) s.length 48))))) fun _ =>
 .fin (([]:List aw)++s))
def jO s:=(fX s).val
theorem Dl (s:List aw):(fX s).dz (fun (x:(List aw))=>x.length=s.length∧x=s):=by
 unfold fX
 simp [Sk.dz,gr,nY]
theorem BU (s:List aw):(fun (x:(List aw))=>x.length=s.length∧x=s) (jO s):=have h:=Sk.dA _ (Dl s); h
theorem EZ (s:List aw) (hs:s.length≤1000000000):(fX s).bE (fun _=>True):=by
 unfold fX
 exact oj
theorem Dm (s:List aw) (hs:s.length≤1000000000):iU Tryz.prog 31 [lv aw.cells s] [] (ow 777777 (jO s)) [(777777,fg 63 6 aw.cells (jO s))] :=
 iU.sk tok mixed (fun x=>ow 777777 x) (fun x=>[(777777,fg 63 6 aw.cells x)]) Tryz.func31 rfl (by kernel_rfl) 3000 (fX s) (by kernel_rfl) (EZ s hs)
def wH (κ:Nat) (s:List aw):jg ((List aw)):=⟨Tryz.prog,31,[lv aw.cells s],fun x=>ow κ x,fun x=>[(κ,fg 63 6 aw.cells x)],jO s,(s.length≤1000000000),fun h=>iU.Xs κ (Dm s h),fun (x:(List aw))=>x.length=s.length∧x=s,BU s⟩
def iA (r:af) (aj:Int) (f:aD) (j:aQ) (l:List aw) (day:Int) (sum:Int):Sk ((List aw) × Int) :=
 .r 1 ((aR (ar (sum - 1)) 1099511627776).c) fun x1 =>
 .br (!x1)
 (.fin ([],1))
 (.r 3 ((cX r aj f j l day).c) fun x2 =>
 .br (x2.2 != 0)
 (.fin ([],x2.2))
 (.br (x2.1 == 0)
 (.fin ([],7))
 (.br (((l.length:Nat):Int) == 200)
 (.fin ([],6))
 (.r 11 (.fA ((wH 59 l).c) fun x3=>.au (.o [.dy (gr aw.E [({ aA:=j.aA,from_:=j.cm,bZ:=j.aP,sum:=eG sum x2.1,aq:=f.aA.aq,day:=day }:aw)])]) (.au (.o [.dy (nY aw.E x3 [({ aA:=j.aA,from_:=j.cm,bZ:=j.aP,sum:=eG sum x2.1,aq:=f.aA.aq,day:=day }:aw)])]) (.au (.t (aw.E.sE [({ aA:=j.aA,from_:=j.cm,bZ:=j.aP,sum:=eG sum x2.1,aq:=f.aA.aq,day:=day }:aw)])) (.p (zb x3.length [({ aA:=j.aA,from_:=j.cm,bZ:=j.aP,sum:=eG sum x2.1,aq:=f.aA.aq,day:=day }:aw)].length 48))))) fun x3 =>
 .fin (x3++[({ aA:=j.aA,from_:=j.cm,bZ:=j.aP,sum:=eG sum x2.1,aq:=f.aA.aq,day:=day }:aw)],0)))))
def nH r aj f j l day sum:=(iA r aj f j l day sum).val
theorem xR (r:af) (aj:Int) (f:aD) (j:aQ) (l:List aw) (day:Int) (sum:Int) (hl:l.length≤1000000) (cA:f.Small) (db:r.ck) (bG:r.Small):(iA r aj f j l day sum).bE (fun _=>True):=by
 simp only [aD.Small,af.Small,af.ck] at cA
 simp only [aD.Small,af.Small,af.ck] at db
 simp only [aD.Small,af.Small,af.ck] at bG
 unfold iA
 try simp only [cX,aR,wH,eW,aD.Small,af.Small,af.ck]
 exact qJ
def gm r aj f j l day sum:=kk tok mixed Tryz.func10 [av r.cells,iv aj,av f.cells,av j.cells,lv aw.cells l,iv day,iv sum] (fun x=>.ef [lv aw.cells x.1,iv x.2]) false (iA r aj f j l day sum) (nH r aj f j l day sum) (u4 (xR r aj f j l day sum))
def tg:Sk (Bool) :=
 .r 1 zy.c fun x1 =>
 .r 2 Bs.c fun x2 =>
 .r 4 ((xy 1 0 ({ cm:=1,aP:=2,part:=0,sign:=1,wA:=0,aa0:=0,sum:=60,aq:=1,state:=0 }:Claim) 50).c) fun x3 =>
 .r 5 (.o [.dy (gr aw.E [({ aA:=0,from_:=1,bZ:=2,sum:=30,aq:=0,day:=55 }:aw)])]) fun _ =>
 .r 6 (((cX x1 1 x2 ({ fq:=0,aA:=0,sign:=0,cm:=0,aP:=2,sum:=100,aq:=0,day:=50 }:aQ) [] 60).nil 4 ⟨_,rfl⟩).c) fun x4 =>
 .r 7 ((cX x1 1 x2 ({ fq:=0,aA:=0,sign:=0,cm:=0,aP:=2,sum:=100,aq:=0,day:=50 }:aQ) [({ aA:=0,from_:=1,bZ:=2,sum:=30,aq:=0,day:=55 }:aw)] 60).c) fun x5 =>
 .r 8 (((cX x1 1 x2 x3 [] 60).nil 4 ⟨_,rfl⟩).c) fun x6 =>
 .r 9 ((cX x1 1 x2 x3 [({ aA:=0,from_:=1,bZ:=2,sum:=30,aq:=0,day:=55 }:aw)] 60).c) fun x7 =>
 .r 10 (((gm x1 0 x2 ({ fq:=0,aA:=0,sign:=0,cm:=0,aP:=2,sum:=100,aq:=0,day:=50 }:aQ) [] 60 1000).nil 4 ⟨_,rfl⟩).c) fun x8 =>
 .r 11 (.dep (.wh ((((((x4.2 != 0)||(x5.2 != 0))||(x6.2 != 0))||(x7.2 != 0))||(x8.2 != 0))||(((x8.1.length:Nat):Int) != 1)) false ((cB x1 x2 ({ fq:=0,aA:=0,sign:=0,cm:=0,aP:=2,sum:=100,aq:=0,day:=50 }:aQ)).c)) fun x9=>.wh (((((((x4.2 != 0)||(x5.2 != 0))||(x6.2 != 0))||(x7.2 != 0))||(x8.2 != 0))||(((x8.1.length:Nat):Int) != 1))||(x9 != 0)) false ((cB x1 x2 ({ fq:=0,aA:=0,sign:=0,cm:=0,aP:=0,sum:=0,aq:=0,day:=0 }:aQ)).c)) fun p15 =>
 .br ((((((((x4.2 != 0)||(x5.2 != 0))||(x6.2 != 0))||(x7.2 != 0))||(x8.2 != 0))||(((x8.1.length:Nat):Int) != 1))||(p15.1 != 0))||(p15.2 != 1))
 (.fin false)
 (.r 13 (.wh ((((x4.1 == 100)&&(x5.1 == 70))&&(x6.1 == 120))&&(x7.1 == 90)) true (.p (bz (0:Int) x8.1.length))) fun _ =>
 .r 14 (.dep (.wh (((((x4.1 == 100)&&(x5.1 == 70))&&(x6.1 == 120))&&(x7.1 == 90))&&((((x8.1.getD 0 default).aA) == 0)&&((((x8.1.getD 0 default).from_) == 0)&&((((x8.1.getD 0 default).bZ) == 2)&&((((x8.1.getD 0 default).sum) == 100)&&((((x8.1.getD 0 default).aq) == 0)&&((((x8.1.getD 0 default).day) == 60)&&true))))))) true ((ca x1 1 x2 ({ fq:=0,aA:=0,sign:=0,cm:=0,aP:=2,sum:=100,aq:=0,day:=50 }:aQ) 60).c)) fun Ri=>.dep (.wh ((((((x4.1 == 100)&&(x5.1 == 70))&&(x6.1 == 120))&&(x7.1 == 90))&&((((x8.1.getD 0 default).aA) == 0)&&((((x8.1.getD 0 default).from_) == 0)&&((((x8.1.getD 0 default).bZ) == 2)&&((((x8.1.getD 0 default).sum) == 100)&&((((x8.1.getD 0 default).aq) == 0)&&((((x8.1.getD 0 default).day) == 60)&&true)))))))&&(Ri == 1)) true ((ca x1 0 x2 x3 60).c)) fun YY=>.wh (((((((x4.1 == 100)&&(x5.1 == 70))&&(x6.1 == 120))&&(x7.1 == 90))&&((((x8.1.getD 0 default).aA) == 0)&&((((x8.1.getD 0 default).from_) == 0)&&((((x8.1.getD 0 default).bZ) == 2)&&((((x8.1.getD 0 default).sum) == 100)&&((((x8.1.getD 0 default).aq) == 0)&&((((x8.1.getD 0 default).day) == 60)&&true)))))))&&(Ri == 1))&&(YY == 0)) true ((ca x1 0 x2 ({ fq:=0,aA:=0,sign:=0,cm:=0,aP:=2,sum:=100,aq:=0,day:=50 }:aQ) 49).c)) fun UP =>
 .fin ((((((((x4.1 == 100)&&(x5.1 == 70))&&(x6.1 == 120))&&(x7.1 == 90))&&((((x8.1.getD 0 default).aA) == 0)&&((((x8.1.getD 0 default).from_) == 0)&&((((x8.1.getD 0 default).bZ) == 2)&&((((x8.1.getD 0 default).sum) == 100)&&((((x8.1.getD 0 default).aq) == 0)&&((((x8.1.getD 0 default).day) == 60)&&true)))))))&&(UP.1 == 1))&&(UP.2.1 == 0))&&(UP.2.2 == 0)))
def Hg:Bool:=(tg).val
theorem I3:(fun (x:Bool)=>x=true) (Hg):=(show Hg=true by kernel_rfl)
theorem NH:(tg).bE (fun _=>True):=by
 unfold tg
 try simp only [zy,Bs,cB,gm,xy,ca,cX,aD.Small,af.Small,af.ck]
 exact oj
def Ad:eo (Bool):=kk tok mixed Tryz.func4 [] (fun x=>bv x) true (tg) (Hg) (fun (_:True)=>NH) (fun (x:Bool)=>x=true) (I3)
def sc (r:af):Sk (Bool) :=
 .bt
 (.loop (default:Sum (Bool) (Unit)) (fun i2=>i2≤r.aC.length) (fun i2=>r.aC.length - i2) (0:Nat)
 (fun (i2:Nat)=>⟨[(3,iv (i2:Int))],[]⟩) fun i2 =>
 .Ij 1 1 r.aC.length <|
 .br ((decide ((i2:Int) < ((r.aC.length:Nat):Int)))&&(decide ((i2:Int) < 50)))
 (.r 4 (.au (.p (bz (i2:Int) r.aC.length)) (.au (.wh (decide (((((r.aC.getD i2 default).dM).length:Nat):Int) > 70)) false (.p (bz (i2:Int) r.aC.length))) (.wh ((decide (((((r.aC.getD i2 default).dM).length:Nat):Int) > 70))||(decide (((((r.aC.getD i2 default).shut).length:Nat):Int) > 210))) false (.p (bz (i2:Int) r.aC.length))))) fun _ =>
 .br (((decide (((((r.aC.getD i2 default).dM).length:Nat):Int) > 70))||(decide (((((r.aC.getD i2 default).shut).length:Nat):Int) > 210)))||(decide (((((r.aC.getD i2 default).rest).length:Nat):Int) > 8)))
 (.fin (.inl (.inl false)))
 (.nx 3 3 i2 (i2+1)))
 (.fin (.inl (.inr ()))))
 (fun (_:Unit)=>⟨[],[]⟩) fun _ =>
 .bind true (fun b3=>∀ k,k < r.al.length→k < 50→(r.al.getD k default).aF.length≤40∧(r.al.getD k default).rules.length≤40)
 (.loop (default:Sum (Bool) (Unit)) (fun i4=>(∀ k,k < i4→(r.al.getD k default).aF.length≤40∧(r.al.getD k default).rules.length≤40)∧i4≤r.al.length) (fun i4=>r.al.length - i4) (0:Nat)
 (fun (i4:Nat)=>⟨[(4,iv (i4:Int))],[]⟩) fun i4 =>
 .Ij 1 4 r.al.length <|
 .br ((decide ((i4:Int) < ((r.al.length:Nat):Int)))&&(decide ((i4:Int) < 50)))
 (.r 9 (.au (.p (bz (i4:Int) r.al.length)) (.wh (decide (((((r.al.getD i4 default).aF).length:Nat):Int) > 40)) false (.p (bz (i4:Int) r.al.length)))) fun _ =>
 .br ((decide (((((r.al.getD i4 default).aF).length:Nat):Int) > 40))||(decide (((((r.al.getD i4 default).rules).length:Nat):Int) > 40)))
 (.fin (.inl (.inl false)))
 (.nx 8 4 i4 (i4+1)))
 (.fin (.inl (.inr ()))))
 (fun (_:Unit)=>⟨[],[]⟩) fun _ =>
 .fin ((((((((decide (((r.aX.length:Nat):Int) < 50))&&(decide (((r.aC.length:Nat):Int) < 50)))&&(decide (((r.fh.length:Nat):Int) < 50)))&&(decide (((r.bg.length:Nat):Int) < 210)))&&(decide (((r.al.length:Nat):Int) < 50)))&&(decide (((r.aM.length:Nat):Int) < 110)))&&(decide (((r.ak.length:Nat):Int) < 110)))&&(decide (((r.bJ.length:Nat):Int) < 50)))
def Wy r:=(sc r).val
theorem NI (r:af):(sc r).dz (fun (x:Bool)=>x=true→r.Small):=by
 unfold sc
 try simp only [aD.Small,af.Small]
 exact Rg
theorem PX (r:af):(sc r).bE (fun _=>True):=by
 unfold sc
 try simp only [aD.Small,af.Small]
 exact oj
def Dn r:=kp tok mixed Tryz.func39 [av r.cells] (fun x=>bv x) true (Wy r) (u0 (PX r)) (NI r)
def sd (f:aD):Sk (Bool) :=
 .fin ((((decide (((f.ai.length:Nat):Int)≤50))&&(decide (((f.a8.length:Nat):Int)≤10)))&&(decide (((f.bo.length:Nat):Int)≤110)))&&(decide (((f.facts.length:Nat):Int)≤220)))
def Rt f:=(sd f).val
theorem Hh (f:aD):Rt f=((((decide (((f.ai.length:Nat):Int)≤50))&&(decide (((f.a8.length:Nat):Int)≤10)))&&(decide (((f.bo.length:Nat):Int)≤110)))&&(decide (((f.facts.length:Nat):Int)≤220))):=rfl
theorem NJ (f:aD):(sd f).dz (fun (x:Bool)=>x=true→f.Small):=by
 unfold sd
 try simp only [aD.Small,af.Small]
 exact Rg
theorem PY (f:aD):(sd f).bE (fun _=>True):=by
 unfold sd
 try simp only [aD.Small,af.Small]
 exact mY
def Dp f:=kp tok mixed Tryz.func40 [av f.cells] (fun x=>bv x) true (Rt f) (u0 (PY f)) (NJ f)
def xS (rv:Term→Int→Int→Int) (rp:Term→Int→Int→Prop) (rf:∀ (t:Term) (n:Int) (levels:Int),rp t n levels→iU Tryz.prog 105 [av t.cells,iv n,iv levels] [] (iv (rv t n levels)) []) (t:Term) (n:Int) (levels:Int):eo (Int):=⟨Tryz.prog,105,[av t.cells,iv n,iv levels],fun x=>iv x,true,rv t n levels,rp t n levels,rf t n levels,fun _=>True,trivial⟩
def jy (rv:Term→Int→Int→Int) (rp:Term→Int→Int→Prop) (rf:∀ (t:Term) (n:Int) (levels:Int),rp t n levels→iU Tryz.prog 105 [av t.cells,iv n,iv levels] [] (iv (rv t n levels)) []) (t:Term) (n:Int) (levels:Int):Sk (Int) :=
 .br (decide (levels < 1))
 (.fin (-1))
 (.bt
 (.loop (default:Sum (Int) (Int)) (fun i2=>i2.2≤t.args.length) (fun i2=>t.args.length - i2.2) ((ar (n - 1),0):Int × Nat)
 (fun (i2:Int × Nat)=>⟨[(1,iv i2.1),(7,iv (i2.2:Int))],[]⟩) fun i2 =>
 .Ij 3 2 t.args.length <|
 .br ((decide ((i2.2:Int) < ((t.args.length:Nat):Int)))&&(decide (i2.1≥0)))
 (.r 7 (.au (.au (.p (bz (i2.2:Int) t.args.length)) (.o [.cast 26 (Sr (Term.zY (t.args.getD i2.2 default)))])) ((xS rv rp rf (t.args.getD i2.2 default) i2.1 (ar (levels - 1))).c)) fun x3 =>
 .nx 6 7 i2.2 (x3,i2.2+1))
 (.fin (.inl (.inr i2.1))))
 (fun (b1:Int)=>⟨[(1,iv b1)],[]⟩) fun b1 =>
 .fin b1)
def cj:Nat→Term→Int→Int→Int
 | 0,_,_,_=>default
 | fu+1,t,n,levels=>(jy (cj fu) (fun _ _ _=>False) (fun _ _ _=>fun h=>h.elim) t n levels).val
theorem NK (fu:Nat) (rf:∀ (t:Term) (n:Int) (levels:Int),t.depth≤fu∧True→iU Tryz.prog 105 [av t.cells,iv n,iv levels] [] (iv (cj fu t n levels)) []) (t:Term) (n:Int) (levels:Int) (hm:t.depth≤fu+1):(jy (cj fu) (fun t n levels=>t.depth≤fu∧True) rf t n levels).bE (fun _=>True):=by
 refine Sk.bm _ ?_
 unfold jy
 simp only [Sk.j2,Sk.aU,reduceCtorEq,ON,kk,kp,xS,maxLen]
 all_goals (repeat' first | assumption | (apply And.intro) | (intro h))
 all_goals first | trivial | assumption | omega | (refine Nat.le_of_lt_succ (Nat.lt_of_lt_of_le (Term.fS t _ (by (try simp only [LN] at *); omega)) hm)) | ((try simp only [LN] at *) <;> first | omega | (refine (az ?_ ?_).trans ?_ <;> omega) | (simp (disch:=omega) only [az] at *; omega) | (grind) | (simp_all; done) | (simp_all; omega))
theorem Lp (fu:Nat) (rp:Term→Int→Int→Prop) (rf:∀ (t:Term) (n:Int) (levels:Int),rp t n levels→iU Tryz.prog 105 [av t.cells,iv n,iv levels] [] (iv (cj fu t n levels)) []) (t:Term) (n:Int) (levels:Int):(jy (cj fu) rp rf t n levels).val=cj (fu+1) t n levels:=by kernel_rfl
theorem Lq (fu:Nat):∀ (t:Term) (n:Int) (levels:Int),t.depth≤fu→iU Tryz.prog 105 [av t.cells,iv n,iv levels] [] (iv (cj fu t n levels)) []:=by
 induction fu with
 | zero=>intro t n levels hm; exact absurd hm (by have:=Term.fK t; omega)
 | succ fu ih =>
  intro t n levels hm
  have h:iU Tryz.prog 105 [av t.cells,iv n,iv levels] [] (iv ((jy (cj fu) (fun t n levels=>t.depth≤fu∧True) (fun t n levels h=>ih t n levels h.1) t n levels).val)) []:=iU.sk tok mixed (fun x=>iv x) (fun _=>[]) Tryz.func105 rfl (by kernel_rfl) 3000 (jy (cj fu) (fun t n levels=>t.depth≤fu∧True) (fun t n levels h=>ih t n levels h.1) t n levels) (by kernel_rfl) (NK fu _ t n levels hm)
  rw [Lp] at h
  exact h
def NL (t:Term) (n:Int) (levels:Int):Int:=cj (t.depth) t n levels
theorem NM (t:Term) (n:Int) (levels:Int):iU Tryz.prog 105 [av t.cells,iv n,iv levels] [] (iv (NL t n levels)) []:=Lq _ t n levels (Nat.le_refl _)
def vH (t:Term) (n:Int) (levels:Int):eo (Int):=⟨Tryz.prog,105,[av t.cells,iv n,iv levels],fun x=>iv x,true,NL t n levels,True,fun _=>NM t n levels,fun _=>True,trivial⟩
mutual
def Term.nodes:Term→Int
 | ⟨_,_,args⟩=>Term.gu args+1
def Term.gu:List Term→Int
 | []=>0
 | x :: r=>x.nodes+Term.gu r
end
def mM (fu:Nat) (l:Int) (x:Term) (s:Int):(Int ⊕ Int) ⊕ Int:=bif decide (s≥0) then .inr (cj fu x s (ar (l - 1))) else .inl (.inr s)
theorem SH (fu:Nat) (t:Term) (n l:Int):cj (fu+1) t n l=bif decide (l < 1) then -1 else dZ (walk (mM fu l) (fun s=>.inr s) t.args (ar (n - 1))) id:=by
 show (jy (cj fu) (fun _ _ _=>False) (fun _ _ _=>fun h=>h.elim) t n l).val=_
 simp only [jy,Sk.aZ,Sk.cu,Sk.cS,Sk.aN]
 congr 1
 rw [jC t.args (fun s i=>(s,i)) (mM fu l) (fun s=>.inr s) (fun s i hi=>?_) (fun s=>?_) (by simp) _]
 ·rfl
 ·simp only [Sk.bQ,Sk.aZ,Sk.bU,Sk.cw,Sk.aN,eo.qB,kk,kp,xS]
  rw [decide_eq_true (by omega),Bool.true_and]
  unfold mM
  cases decide (s≥0) <;> rfl
 ·simp only [Sk.bQ,Sk.aZ,Sk.bU,Sk.cw,Sk.aN,eo.qB,kk,kp]
  rw [decide_eq_false (by omega),Bool.false_and,cond_false]
def nI (fu:Nat) (tW:Int) (x:Term) (s:Int):(Int ⊕ Int) ⊕ Int:=bif decide (ar (s+aI fu x (ar (tW+1))) > 60) then .inl (.inr (ar (s+aI fu x (ar (tW+1))))) else .inr (ar (s+aI fu x (ar (tW+1))))
theorem Lr (fu:Nat) (t:Term) (tW:Int):aI (fu+1) t tW=bif decide (tW > 8) then 61 else dZ (walk (nI fu tW) (fun s=>.inr s) t.args 1) id:=by
 show (cT (aI fu) (fun _ _=>False) (fun _ _=>fun h=>h.elim) t tW).val=_
 simp only [cT,Sk.aZ,Sk.cu,Sk.cS,Sk.aN]
 congr 1
 rw [jC t.args (fun s i=>(s,i)) (nI fu tW) (fun s=>.inr s) (fun s i hi=>?_) (fun s=>?_) (by simp) _]
 ·rfl
 ·simp only [Sk.bQ,Sk.aZ,Sk.bU,Sk.cw,Sk.aN,eo.qB,kk,kp,mi]
  rw [decide_eq_true (by omega),cond_true]
  unfold nI
  by_cases c:ar (s+aI fu (t.args.getD i default) (ar (tW+1))) > 60
  ·simp only [c,decide_true,cond_true]
  ·simp only [c,decide_false,cond_false]
 ·simp only [Sk.bQ,Sk.aZ,Sk.bU,Sk.cw,Sk.aN,eo.qB,kk,kp]
  rw [decide_eq_false (by omega),cond_false]
theorem oG (t:Term):1≤t.nodes∧0≤Term.gu t.args:=by
 have h:∀ (d:Nat) (t:Term),t.depth≤d→0≤Term.gu t.args:=by
  intro d
  induction d with
  | zero=>intro t h; have:=t.fK; omega
  | succ d ih =>
   intro t h
   obtain ⟨op,n,args⟩:=t
   simp only [Term.depth] at h
   have h:Term.bO args≤d:=by omega
   show 0≤Term.gu args
   clear n op
   induction args with
   | nil=>simp [Term.gu]
   | cons x r ihr =>
    simp only [Term.bO] at h
    have h1:=ih x (by omega)
    have h2:=ihr (by omega)
    obtain ⟨op,n,args⟩:=x
    simp only [Term.gu,Term.nodes] at h1 ⊢
    omega
 have:=h t.depth t (Nat.le_refl _)
 obtain ⟨op,n,args⟩:=t
 simp only [Term.nodes] at this ⊢
 omega
theorem size_eq:∀ (fu:Nat) (t:Term) (n l:Int),t.depth≤fu→0≤n→n≤1000→0≤l→l≤1000 →
  (-1≤cj fu t n l∧cj fu t n l≤n)∧(0≤cj fu t n l↔t.nodes≤n∧(t.depth:Int)≤l)∧(0≤cj fu t n l→cj fu t n l=n - t.nodes)
 | 0,t,_,_,h,_,_,_,_=>absurd h (by have:=t.fK; omega)
 | fu+1,t,n,l,h,h1,h2,h3,h4=>by
  rw [SH]
  obtain ⟨op,m,args⟩:=t
  simp only [Term.depth,Term.nodes] at h ⊢
  have hd:Term.bO args≤fu:=by omega
  by_cases hl:l < 1
  ·rw [decide_eq_true hl,cond_true]; omega
  rw [decide_eq_false hl,cond_false,az (by omega) (by omega)]
  have Zy:0≤Term.gu args:=(oG ⟨op,m,args⟩).2
  have key:∀ (ts:List Term) (s:Int),Term.bO ts≤fu→-1≤s→s≤1000 →
    (-1≤dZ (walk (mM fu l) (fun s=>.inr s) ts s) id∧dZ (walk (mM fu l) (fun s=>.inr s) ts s) id≤s) ∧
    (0≤dZ (walk (mM fu l) (fun s=>.inr s) ts s) id↔0≤s∧Term.gu ts≤s∧(Term.bO ts:Int)≤l - 1) ∧
    (0≤dZ (walk (mM fu l) (fun s=>.inr s) ts s) id→dZ (walk (mM fu l) (fun s=>.inr s) ts s) id=s - Term.gu ts):=by
   intro ts
   induction ts with
   | nil =>
    intro s _ hs _
    simp only [walk,cN,Term.gu,Term.bO,id]
    omega
   | cons x r ih =>
    intro s hd hs hs2
    simp only [Term.bO] at hd
    by_cases h0:s≥0
    ·have hx:=size_eq fu x s (l - 1) (by omega) h0 hs2 (by omega) (by omega)
     have e:walk (mM fu l) (fun s=>.inr s) (x :: r) s=walk (mM fu l) (fun s=>Sum.inr s) r (cj fu x s (l - 1)):=by
      simp only [walk,mM]
      rw [decide_eq_true h0,cond_true,az (n:=l - 1) (by omega) (by omega)]
     rw [e]
     have hr:=ih (cj fu x s (l - 1)) (by omega) hx.1.1 (by omega)
     have hnr:0≤Term.gu r:=(oG ⟨op,m,r⟩).2
     have ZY:=(oG x).1
     generalize dZ (walk (mM fu l) (fun s=>.inr s) r (cj fu x s (l - 1))) id=R at hr ⊢
     generalize cj fu x s (l - 1)=X at hx hr ⊢
     simp only [Term.gu,Term.bO]
     have ZC:((max x.depth (Term.bO r):Nat):Int)≤l - 1↔(x.depth:Int)≤l - 1∧(Term.bO r:Int)≤l - 1:=by omega
     rw [ZC]
     by_cases hX:0≤X
     ·have:=hx.2.2 hX
      have:=hx.2.1.1 hX
      refine ⟨⟨hr.1.1,by omega⟩,⟨fun h=>?_,fun h=>?_⟩,fun h=>?_⟩
      ·have:=hr.2.1.1 h; omega
      ·exact hr.2.1.2 (by omega)
      ·have:=hr.2.2 h; omega
     ·have hX2:¬ (x.nodes≤s∧(x.depth:Int)≤l - 1):=fun h=>hX (hx.2.1.2 h)
      have hR:¬ 0≤R:=fun h=>by have:=hr.2.1.1 h; omega
      omega
    ·have e:walk (mM fu l) (fun s=>.inr s) (x :: r) s=Sum.inr s:=by
      simp only [walk,mM]
      rw [decide_eq_false h0,cond_false]
     rw [e,cN,id]
     omega
  have:=key args (n - 1) hd (by omega) (by omega)
  generalize dZ (walk (mM fu l) (fun s=>.inr s) args (n - 1)) id=R at this ⊢
  omega
theorem Hi:∀ (fu:Nat) (t:Term) (tW:Int),t.depth≤fu→1≤tW→tW≤9→(aI fu t tW≤60↔t.nodes≤60∧(t.depth:Int)+tW≤9)∧(aI fu t tW≤60→aI fu t tW=t.nodes)
 | 0,t,_,h,_,_=>absurd h (by have:=t.fK; omega)
 | fu+1,t,tW,h,h1,h2=>by
  rw [Lr]
  obtain ⟨op,m,args⟩:=t
  simp only [Term.depth,Term.nodes] at h ⊢
  have hd:Term.bO args≤fu:=by omega
  by_cases hl:tW > 8
  ·rw [decide_eq_true hl,cond_true]; omega
  rw [decide_eq_false hl,cond_false]
  have key:∀ (ts:List Term) (s:Int),Term.bO ts≤fu→1≤s→s≤60 →
    s≤dZ (walk (nI fu tW) (fun s=>.inr s) ts s) id ∧
    (dZ (walk (nI fu tW) (fun s=>.inr s) ts s) id≤60↔s+Term.gu ts≤60∧(Term.bO ts:Int)+tW≤8) ∧
    (dZ (walk (nI fu tW) (fun s=>.inr s) ts s) id≤60→dZ (walk (nI fu tW) (fun s=>.inr s) ts s) id=s+Term.gu ts):=by
   intro ts
   induction ts with
   | nil =>
    intro s _ hs hs2
    simp only [walk,cN,Term.gu,Term.bO,id]
    omega
   | cons x r ih =>
    intro s hd hs hs2
    simp only [Term.bO] at hd
    have hx:=Hi fu x (tW+1) (by omega) (by omega) (by omega)
    have hxb:=mj fu x (tW+1) (by omega) (by omega) (by omega)
    have hnr:0≤Term.gu r:=(oG ⟨op,m,r⟩).2
    have ZY:=(oG x).1
    have ZC:((max x.depth (Term.bO r):Nat):Int)+tW≤8↔(x.depth:Int)+tW≤8∧(Term.bO r:Int)+tW≤8:=by omega
    simp only [Term.gu,Term.bO]
    rw [ZC]
    have ew:ar (s+aI fu x (ar (tW+1)))=s+aI fu x (tW+1):=by
     rw [az (n:=tW+1) (by omega) (by omega),az (by omega) (by omega)]
    by_cases h0:s+aI fu x (tW+1) > 60
    ·have e:walk (nI fu tW) (fun s=>.inr s) (x :: r) s=Sum.inr (s+aI fu x (tW+1)):=by
      simp only [walk,nI,ew]
      rw [decide_eq_true h0,cond_true]
     rw [e,cN,id]
     refine ⟨by omega,⟨fun h=>by omega,fun h=>?_⟩,fun h=>by omega⟩
     have:=hx.1.2 (by omega)
     have:=hx.2 this
     omega
    ·have e:walk (nI fu tW) (fun s=>.inr s) (x :: r) s=walk (nI fu tW) (fun s=>Sum.inr s) r (s+aI fu x (tW+1)):=by
      simp only [walk,nI,ew]
      rw [decide_eq_false h0,cond_false]
     rw [e]
     have hr:=ih (s+aI fu x (tW+1)) (by omega) (by omega) (by omega)
     have e2:=hx.2 (by omega)
     have e3:=hx.1.1 (by omega)
     generalize dZ (walk (nI fu tW) (fun s=>.inr s) r (s+aI fu x (tW+1))) id=R at hr ⊢
     generalize aI fu x (tW+1)=X at *
     refine ⟨by omega,⟨fun h=>?_,fun h=>hr.2.1.2 (by omega)⟩,fun h=>?_⟩
     ·have:=hr.2.1.1 h; omega
     ·have:=hr.2.2 h; omega
  have:=key args 1 hd (by omega) (by omega)
  generalize dZ (walk (nI fu tW) (fun s=>.inr s) args 1) id=R at this ⊢
  omega
theorem Hj:∀ l:List Term,(l.length:Int)≤Term.gu l∧∀ q,q < l.length→(l.getD q default).nodes≤Term.gu l
 | []=>⟨by simp [Term.gu],fun q h=>absurd h (by simp)⟩
 | x :: r=>by
  have h:=Hj r
  have hx:=(oG x).1
  have hr:0≤Term.gu r:=(oG ⟨0,0,r⟩).2
  simp only [Term.gu,List.length_cons]
  refine ⟨by omega,fun q hq=>?_⟩
  cases q with
  | zero=>show x.nodes≤_; omega
  | succ q=>have:=h.2 q (by omega); show (r.getD q default).nodes≤_; omega
theorem Ru:∀ (d:Nat) (t:Term),t.depth≤d→t.nodes≤60→rT t
 | 0,t,h,_=>absurd h (by have:=t.fK; omega)
 | d+1,t,h,hn=>by
  have hn2:Term.gu t.args+1≤60:=by obtain ⟨_,_,_⟩:=t; simpa only [Term.nodes] using hn
  have hl:=Hj t.args
  exact .mk (by omega) fun q hq=>Ru d _ (by have:=t.fS q hq; omega) (by have:=hl.2 q hq; omega)
def vI (t:Term):Sk (Bool) :=
 .r 1 ((vH t 100 20).c) fun x1 =>
 .fin (decide (x1≥0))
def Wz t:=(vI t).val
theorem PZ (t:Term):(vI t).bE (fun _=>True):=by
 unfold vI
 try simp only [vH]
 exact mY
def Kj t:=kk tok mixed Tryz.func69 [av t.cells] (fun x=>bv x) true (vI t) (Wz t) (u0 (PZ t))
def vJ (o:Order):Sk (Bool) :=
 .br ((decide (((o.rules.length:Nat):Int) > 60))||(decide (((o.aF.length:Nat):Int) > 60)))
 (.fin false)
 (.bt
 (.loop (default:Sum (Bool) (Unit)) (fun i2=>i2≤o.rules.length) (fun i2=>o.rules.length - i2) (0:Nat)
 (fun (i2:Nat)=>⟨[(3,iv (i2:Int))],[]⟩) fun i2 =>
 .lt 1 3 i2 o.rules.length
 (.r 6 (.au (.p (bz (i2:Int) o.rules.length)) ((Kj ((o.rules.getD i2 default).term)).c)) fun x3 =>
 .br (!x3)
 (.fin (.inl (.inl false)))
 (.nx 5 3 i2 (i2+1)))
 (.fin (.inl (.inr ()))))
 (fun (_:Unit)=>⟨[],[]⟩) fun _ =>
 .fin true)
def WA o:=(vJ o).val
theorem P1 (o:Order):(vJ o).bE (fun _=>True):=by
 unfold vJ
 try simp only [Kj]
 exact oj
def Dq o:=kk tok mixed Tryz.func41 [av o.cells] (fun x=>bv x) true (vJ o) (WA o) (u0 (P1 o))
def se (r:af) (f:aD):Sk (Bool) :=
 .r 1 (.dep ((Dn r).c) fun x1=>.wh (!x1) false ((Dp f).c)) fun p6 =>
 .br ((!p6.1)||(!p6.2))
 (.fin false)
 (.bt
 (.loop (default:Sum (Bool) (Unit)) (fun i4=>i4≤r.al.length) (fun i4=>r.al.length - i4) (0:Nat)
 (fun (i4:Nat)=>⟨[(5,iv (i4:Int))],[]⟩) fun i4 =>
 .lt 2 4 i4 r.al.length
 (.r 6 (.au (.p (bz (i4:Int) r.al.length)) ((Dq (r.al.getD i4 default)).c)) fun x5 =>
 .br (!x5)
 (.fin (.inl (.inl false)))
 (.nx 5 5 i4 (i4+1)))
 (.fin (.inl (.inr ()))))
 (fun (_:Unit)=>⟨[],[]⟩) fun _ =>
 .fin true)
def Rv r f:=(se r f).val
theorem NN (r:af) (f:aD):(se r f).dz (fun (x:Bool)=>x=true→r.Small∧f.Small):=by
 unfold se
 try simp only [Dn,Dp,Dq,Hh,aD.Small,af.Small]
 exact Su
theorem P2 (r:af) (f:aD):(se r f).bE (fun _=>True):=by
 unfold se
 try simp only [Dn,Dp,Dq,Hh,aD.Small,af.Small]
 exact qJ
def Dr r f:=kp tok mixed Tryz.func20 [av r.cells,av f.cells] (fun x=>bv x) true (Rv r f) (u0 (P2 r f)) (NN r f)
def pb (c_:Int):Sk (Bool) :=
 .fin (((decide ((97:Int)≤c_))&&(decide (c_≤122)))||((decide ((65:Int)≤c_))&&(decide (c_≤90))))
def Hk c_:=(pb c_).val
theorem I4 (c_:Int):Hk c_=(((decide ((97:Int)≤c_))&&(decide (c_≤122)))||((decide ((65:Int)≤c_))&&(decide (c_≤90)))):=rfl
theorem I5 (c_:Int):(pb c_).bE (fun _=>True):=by
 unfold pb
 exact mY
def BV c_:=kk tok mixed Tryz.func150 [.d (.v (.int .u8 c_))] (fun x=>bv x) true (pb c_) (Hk c_) (u0 (I5 c_))
def th (s:ByteArray):Sk (Bool) :=
 .br ((decide (((s.size:Nat):Int) < 1))||(decide (((s.size:Nat):Int) > 20)))
 (.fin false)
 (.bt
 (.loop (default:Sum (Bool) (Unit)) (fun i2=>i2≤s.size) (fun i2=>s.size - i2) (0:Nat)
 (fun (i2:Nat)=>⟨[(3,iv (i2:Int))],[]⟩) fun i2 =>
 .br (decide ((i2:Int) < ((s.size:Nat):Int)))
 (.r 6 (.au (.p (0≤(i2:Int)∧(i2:Int) < ((s.size:Nat):Int))) (.au (.wh (((s.data.toList.getD i2 0).toNat:Int) == 95) false (.p (0≤(i2:Int)∧(i2:Int) < ((s.size:Nat):Int)))) (.wh (((s.data.toList.getD i2 0).toNat:Int) == 95) false (.wh (decide ((48:Int)≤((s.data.toList.getD i2 0).toNat:Int))) true (.p (0≤(i2:Int)∧(i2:Int) < ((s.size:Nat):Int))))))) fun _ =>
 .r 7 (.au (.p (0≤(i2:Int)∧(i2:Int) < ((s.size:Nat):Int))) ((BV ((s.data.toList.getD i2 0).toNat:Int)).c)) fun x3 =>
 .br ((!x3)&&(((i2:Int) == 0)||(!((((s.data.toList.getD i2 0).toNat:Int) == 95)||((decide ((48:Int)≤((s.data.toList.getD i2 0).toNat:Int)))&&(decide (((s.data.toList.getD i2 0).toNat:Int)≤57)))))))
 (.fin (.inl (.inl false)))
 (.nx 5 3 i2 (i2+1)))
 (.fin (.inl (.inr ()))))
 (fun (_:Unit)=>⟨[],[]⟩) fun _ =>
 .fin true)
def UQ s:=(th s).val
theorem NP (s:ByteArray):(th s).bE (fun _=>True):=by
 unfold th
 try simp only [BV,I4]
 exact qJ
def Hl s:=kk tok mixed Tryz.func106 [sv s] (fun x=>bv x) true (th s) (UQ s) (u0 (NP s))
def pd (l:List ByteArray) (n:Int) (s:ByteArray):Sk (Bool) :=
 .bt
 (.loop (default:Sum (Bool) (Unit)) (fun i2=>i2≤l.length) (fun i2=>l.length - i2) (0:Nat)
 (fun (i2:Nat)=>⟨[(7,iv (i2:Int))],[]⟩) fun i2 =>
 .Ij 0 0 l.length <|
 .br ((decide ((i2:Int) < n))&&(decide ((i2:Int) < ((l.length:Nat):Int))))
 (.r 4 (.p (bz (i2:Int) l.length)) fun _ =>
 .br ((l.getD i2 default).toList == s.toList)
 (.fin (.inl (.inl true)))
 (.nx 3 7 i2 (i2+1)))
 (.fin (.inl (.inr ()))))
 (fun (_:Unit)=>⟨[],[]⟩) fun _ =>
 .fin false
def P3 l n s:=(pd l n s).val
theorem I6 (l:List ByteArray) (n:Int) (s:ByteArray):(pd l n s).bE (fun _=>True):=by
 unfold pd
 exact oj
def BW l n s:=kk tok mixed Tryz.func107 [lv gV l,iv n,sv s] (fun x=>bv x) true (pd l n s) (P3 l n s) (u0 (I6 l n s))
def qO (l:List ByteArray) (i:Int):Sk (Int) :=
 .r 1 (.au (.p (bz i l.length)) ((Hl (l.getD i.toNat default)).c)) fun x1 =>
 .br (!x1)
 (.fin 2)
 (.r 3 (.au (.p (bz i l.length)) ((BW l i (l.getD i.toNat default)).c)) fun x2 =>
 .br x2
 (.fin 5)
 (.fin 0))
def SI l i:=(qO l i).val
theorem Ls (l:List ByteArray) (i:Int) (hi:0≤i∧i < (l.length:Int)):(qO l i).bE (fun _=>True):=by
 unfold qO
 try simp only [BW,Hl]
 exact oj
def gx l i:=kk tok mixed Tryz.func70 [lv gV l,iv i] (fun x=>iv x) true (qO l i) (SI l i) (Ls l i)
def pg (n:Int) (low:Int) (high:Int):Sk (Bool) :=
 .fin ((decide (low≤n))&&(decide (n≤high)))
def fG n low high:=(pg n low high).val
theorem bN (n:Int) (low:Int) (high:Int):fG n low high=((decide (low≤n))&&(decide (n≤high))):=rfl
theorem I7 (n:Int) (low:Int) (high:Int):(pg n low high).bE (fun _=>True):=by
 unfold pg
 exact mY
def aK n low high:=kk tok mixed Tryz.func72 [iv n,iv low,iv high] (fun x=>bv x) true (pg n low high) (fG n low high) (u0 (I7 n low high))
def ph (l:List Int) (low:Int) (high:Int):Sk (Bool) :=
 .bt
 (.loop (default:Sum (Bool) (Unit)) (fun i2=>i2≤l.length) (fun i2=>l.length - i2) (0:Nat)
 (fun (i2:Nat)=>⟨[(7,iv (i2:Int))],[]⟩) fun i2 =>
 .lt 0 0 i2 l.length
 (.r 4 (.au (.p (bz (i2:Int) l.length)) ((aK (l.getD i2 default) low high).c)) fun x3 =>
 .br (!x3)
 (.fin (.inl (.inl false)))
 (.r 6 (.au (.wh (decide ((i2:Int) > 0)) true (.p (bz (ar ((i2:Int) - 1)) l.length))) (.wh (decide ((i2:Int) > 0)) true (.p (bz (i2:Int) l.length)))) fun _ =>
 .br ((decide ((i2:Int) > 0))&&(decide ((l.getD ((ar ((i2:Int) - 1)).toNat) default)≥(l.getD i2 default))))
 (.fin (.inl (.inl false)))
 (.nx 3 7 i2 (i2+1))))
 (.fin (.inl (.inr ()))))
 (fun (_:Unit)=>⟨[],[]⟩) fun _ =>
 .fin true
def P4 l low high:=(ph l low high).val
theorem I8 (l:List Int) (low:Int) (high:Int):(ph l low high).bE (fun _=>True):=by
 unfold ph
 try simp only [aK,bN]
 exact qJ
def nJ l low high:=kk tok mixed Tryz.func108 [lv cM l,iv low,iv high] (fun x=>bv x) true (ph l low high) (P4 l low high) (u0 (I8 l low high))
def jq (r:af) (c_:dL):Sk (Bool) :=
 .r 1 (.dep ((aK c_.order 0 (ar (((r.al.length:Nat):Int) - 1))).c) fun x1=>.wh (!x1) false ((aK c_.aq 0 (ar (((r.aX.length:Nat):Int) - 1))).c)) fun GM =>
 .br ((((!GM.1)||(!GM.2))||(decide (((c_.dM.length:Nat):Int) > 60)))||(decide (((c_.shut.length:Nat):Int) > 200)))
 (.fin false)
 (.bt
 (.loop (default:Sum (Bool) (Unit)) (fun i4=>i4≤c_.dM.length) (fun i4=>c_.dM.length - i4) (0:Nat)
 (fun (i4:Nat)=>⟨[(5,iv (i4:Int))],[]⟩) fun i4 =>
 .lt 3 4 i4 c_.dM.length
 (.r 6 (.au (.p (bz (i4:Int) c_.dM.length)) (.au (.p ((100:Int)≠0)) (.dep ((aK (ar ((c_.dM.getD i4 default).tdiv 100)) 1 12).c) fun x5=>.au (.wh (!x5) false (.p (bz (i4:Int) c_.dM.length))) (.au (.wh (!x5) false (.p ((100:Int)≠0))) (.wh (!x5) false ((aK ((c_.dM.getD i4 default).tmod 100) 1 31).c)))))) fun p7 =>
 .br ((!p7.1)||(!p7.2))
 (.fin (.inl (.inl false)))
 (.nx 5 5 i4 (i4+1)))
 (.fin (.inl (.inr ()))))
 (fun (_:Unit)=>⟨[],[]⟩) fun _ =>
 .r 8 (.dep ((nJ c_.rest 0 6).c) fun x8=>.dep (.wh x8 true ((nJ c_.dM 0 2000).c)) fun x9=>.wh (x8&&x9) true ((nJ c_.shut 0 100000).c)) fun Ew =>
 .fin ((Ew.1&&Ew.2.1)&&Ew.2.2))
def I9 r c_:=(jq r c_).val
theorem BX (r:af) (c_:dL):(jq r c_).dz (fun (x:Bool)=>x=true→0≤c_.order):=by
 unfold jq
 try simp only [nJ,aK,bN]
 exact Su
theorem Ds (r:af) (c_:dL):(jq r c_).bE (fun _=>True):=by
 unfold jq
 try simp only [nJ,aK,bN]
 exact qJ
def qu r c_:=kp tok mixed Tryz.func71 [av r.cells,av c_.cells] (fun x=>bv x) true (I9 r c_) (u0 (Ds r c_)) (BX r c_)
def lV (r:af):Sk (Int) :=
 .br (decide (((r.aX.length:Nat):Int) > 8))
 (.fin 6)
 (.bt
 (.loop (default:Sum (Int) (Unit)) (fun i2=>i2≤r.aX.length) (fun i2=>r.aX.length - i2) (0:Nat)
 (fun (i2:Nat)=>⟨[(3,iv (i2:Int))],[]⟩) fun i2 =>
 .lt 1 0 i2 r.aX.length
 (.r 6 ((gx r.aX (i2:Int)).c) fun x3 =>
 .br (x3 != 0)
 (.fin (.inl (.inl x3)))
 (.nx 5 3 i2 (i2+1)))
 (.fin (.inl (.inr ()))))
 (fun (_:Unit)=>⟨[],[]⟩) fun _ =>
 .br (decide (((r.aC.length:Nat):Int) > 40))
 (.fin 6)
 (.bind true (fun b4=>(∀ i,i < r.aC.length→0≤(r.aC.getD i default).order))
 (.loop (default:Sum (Int) (Unit)) (fun i5=>i5.1.length=i5.2∧i5.2≤r.aC.length∧(∀ i,i < i5.2→0≤(r.aC.getD i default).order)) (fun i5=>r.aC.length - i5.2) (([],0):(List ByteArray) × Nat)
 (fun (i5:(List ByteArray) × Nat)=>⟨[(5,ow 100001 i5.1),(6,iv (i5.2:Int))],[(100001,fg 9 1 gV i5.1)]⟩) fun i5 =>
 .lt 1 1 i5.2 r.aC.length
 (.r 15 (.au (.p (bz (i5.2:Int) r.aC.length)) (.au (.o [.dy (gr tI [(r.aC.getD i5.2 default).name])]) (.au (.o [.dy (nY tI i5.1 [(r.aC.getD i5.2 default).name])]) (.au (.t (tI.sE [(r.aC.getD i5.2 default).name])) (.p (zb i5.1.length [(r.aC.getD i5.2 default).name].length 16)))))) fun _ =>
 .r 16 ((gx (i5.1++[(r.aC.getD i5.2 default).name]) (i5.2:Int)).c) fun x6 =>
 .br (x6 != 0)
 (.fin (.inl (.inl x6)))
 (.r 19 (.au (.p (bz (i5.2:Int) r.aC.length)) ((qu r (r.aC.getD i5.2 default)).c)) fun x7 =>
 .br (!x7)
 (.fin (.inl (.inl 1)))
 (.nx 14 6 i5.2 (i5.1++[(r.aC.getD i5.2 default).name],i5.2+1))))
 (.fin (.inl (.inr ()))))
 (fun (_:Unit)=>⟨[],[]⟩) fun _ =>
 .fin 0))
def oH r:=(lV r).val
theorem xT (r:af):(lV r).dz (fun (x:Int)=>x=0→r.aX.length≤8∧r.aC.length≤40∧(∀ i,i < r.aC.length→0≤(r.aC.getD i default).order)):=by
 unfold lV
 try simp only [qu,gx]
 exact Rg
theorem E0 (r:af):(fun (x:Int)=>x=0→r.aX.length≤8∧r.aC.length≤40∧(∀ i,i < r.aC.length→0≤(r.aC.getD i default).order)) (oH r):=have h:=Sk.dA _ (xT r); h
theorem Ja (r:af):(lV r).bE (fun _=>True):=by
 unfold lV
 try simp only [qu,gx]
 exact oj
def vK r:=kp tok mixed Tryz.func42 [av r.cells] (fun x=>iv x) true (oH r) (u0 (Ja r)) (xT r)
def lB (r:af):Sk (Int) :=
 .br (decide (((r.fh.length:Nat):Int) > 20))
 (.fin 6)
 (.bt
 (.loop (default:Sum (Int) (Unit)) (fun i2=>i2≤r.fh.length) (fun i2=>r.fh.length - i2) (0:Nat)
 (fun (i2:Nat)=>⟨[(3,iv (i2:Int))],[]⟩) fun i2 =>
 .lt 1 2 i2 r.fh.length
 (.r 6 (.au (.p (bz (i2:Int) r.fh.length)) ((aK ((r.fh.getD i2 default).Gy) 0 9).c)) fun x3 =>
 .br (!x3)
 (.fin (.inl (.inl 1)))
 (.nx 5 3 i2 (i2+1)))
 (.fin (.inl (.inr ()))))
 (fun (_:Unit)=>⟨[],[]⟩) fun _ =>
 .br (decide (((r.bg.length:Nat):Int) > 200))
 (.fin 6)
 (.bind true (fun b4=>r.aC.length≤40→r.rM)
 (.loop (default:Sum (Int) (Unit)) (fun i5=>i5.1.length=i5.2∧i5.2≤r.bg.length∧(r.aC.length≤40→∀ q,q < i5.2→0≤(r.bg.getD q default).aJ∧(r.bg.getD q default).aJ < (r.aC.length:Int))) (fun i5=>r.bg.length - i5.2) (([],0):(List ByteArray) × Nat)
 (fun (i5:(List ByteArray) × Nat)=>⟨[(4,ow 100001 i5.1),(5,iv (i5.2:Int))],[(100001,fg 9 1 gV i5.1)]⟩) fun i5 =>
 .lt 1 3 i5.2 r.bg.length
 (.r 14 (.au (.p (bz (i5.2:Int) r.bg.length)) (.au (.o [.dy (gr tI [(r.bg.getD i5.2 default).name])]) (.au (.o [.dy (nY tI i5.1 [(r.bg.getD i5.2 default).name])]) (.au (.t (tI.sE [(r.bg.getD i5.2 default).name])) (.p (zb i5.1.length [(r.bg.getD i5.2 default).name].length 16)))))) fun _ =>
 .r 15 ((gx (i5.1++[(r.bg.getD i5.2 default).name]) (i5.2:Int)).c) fun x6 =>
 .br (x6 != 0)
 (.fin (.inl (.inl x6)))
 (.r 18 (.au (.p (bz (i5.2:Int) r.bg.length)) (.dep ((aK ((r.bg.getD i5.2 default).aJ) 0 (ar (((r.aC.length:Nat):Int) - 1))).c) fun x7=>.au (.wh (!x7) false (.p (bz (i5.2:Int) r.bg.length))) (.wh (!x7) false ((aK ((r.bg.getD i5.2 default).group) 0 (ar (((r.fh.length:Nat):Int) - 1))).c)))) fun p9 =>
 .br ((!p9.1)||(!p9.2))
 (.fin (.inl (.inl 1)))
 (.nx 13 5 i5.2 (i5.1++[(r.bg.getD i5.2 default).name],i5.2+1))))
 (.fin (.inl (.inr ()))))
 (fun (_:Unit)=>⟨[],[]⟩) fun _ =>
 .fin 0))
def yJ r:=(lB r).val
theorem Jc (r:af) (hP:r.aC.length≤40):(lB r).dz (fun (x:Int)=>x=0→r.fh.length≤20∧r.bg.length≤200∧r.rM):=by
 refine Sk.bq _ ?_
 unfold lB
 simp only [Sk.cV,Sk.aU,reduceCtorEq,ON,kk,kp,aK,gx,bN,forall_eq,af.rM,maxLen]
 all_goals exact aaZ
theorem Hm (r:af):(fun (x:Int)=>(r.aC.length≤40)→(x=0→r.fh.length≤20∧r.bg.length≤200∧r.rM)) (yJ r):=fun hP=>have h:=Sk.dA _ (Jc r hP); h
theorem Lt (r:af):(lB r).bE (fun _=>True):=by
 refine Sk.bm _ ?_
 unfold lB
 simp only [Sk.j2,Sk.aU,reduceCtorEq,ON,kk,kp,aK,gx,bN,forall_eq,af.rM,maxLen]
 all_goals exact aaZ
def xU r:=kk tok mixed Tryz.func43 [av r.cells] (fun x=>iv x) true (lB r) (yJ r) (u0 (Lt r)) (fun (x:Int)=>(r.aC.length≤40)→(x=0→r.fh.length≤20∧r.bg.length≤200∧r.rM)) (Hm r)
def iB (o:Order):Sk (Bool) :=
 .bind true (fun b1=>∀ j:Nat,j < o.aF.length→((j:Int)≤(o.aF.getD j default).ask∧(o.aF.getD j default).ask≤21)∧0≤(o.aF.getD j default).wA∧(o.aF.getD j default).wA < 5∧(j≠0→(o.aF.getD (j - 1) default).ask < (o.aF.getD j default).ask))
 (.loop (default:Sum (Bool) (Unit)) (fun i2=>(∀ j:Nat,j < i2→((j:Int)≤(o.aF.getD j default).ask∧(o.aF.getD j default).ask≤21)∧0≤(o.aF.getD j default).wA∧(o.aF.getD j default).wA < 5∧(j≠0→(o.aF.getD (j - 1) default).ask < (o.aF.getD j default).ask))∧i2≤o.aF.length) (fun i2=>o.aF.length - i2) (0:Nat)
 (fun (i2:Nat)=>⟨[(3,iv (i2:Int))],[]⟩) fun i2 =>
 .lt 1 2 i2 o.aF.length
 (.r 4 (.au (.p (bz (i2:Int) o.aF.length)) (.dep ((aK ((o.aF.getD i2 default).ask) 0 21).c) fun x3=>.au (.wh (!x3) false (.p (bz (i2:Int) o.aF.length))) (.wh (!x3) false ((aK ((o.aF.getD i2 default).wA) 0 4).c)))) fun p5 =>
 .br ((!p5.1)||(!p5.2))
 (.fin (.inl (.inl false)))
 (.r 6 (.au (.wh (decide ((i2:Int) > 0)) true (.p (bz (ar ((i2:Int) - 1)) o.aF.length))) (.wh (decide ((i2:Int) > 0)) true (.p (bz (i2:Int) o.aF.length)))) fun _ =>
 .br ((decide ((i2:Int) > 0))&&(decide (((o.aF.getD ((ar ((i2:Int) - 1)).toNat) default).ask)≥((o.aF.getD i2 default).ask))))
 (.fin (.inl (.inl false)))
 (.nx 3 3 i2 (i2+1))))
 (.fin (.inl (.inr ()))))
 (fun (_:Unit)=>⟨[],[]⟩) fun _ =>
 .bind true (fun b6=>∀ j:Nat,j < o.rules.length→(j:Int)≤(o.rules.getD j default).ask∧(o.rules.getD j default).ask≤21)
 (.loop (default:Sum (Bool) (Unit)) (fun i7=>(∀ j:Nat,j < i7→(j:Int)≤(o.rules.getD j default).ask∧(o.rules.getD j default).ask≤21)∧i7≤o.rules.length) (fun i7=>o.rules.length - i7) (0:Nat)
 (fun (i7:Nat)=>⟨[(4,iv (i7:Int))],[]⟩) fun i7 =>
 .lt 1 3 i7 o.rules.length
 (.r 11 (.au (.p (bz (i7:Int) o.rules.length)) ((aK ((o.rules.getD i7 default).ask) 0 21).c)) fun x8 =>
 .br (!x8)
 (.fin (.inl (.inl false)))
 (.r 13 (.au (.wh (decide ((i7:Int) > 0)) true (.p (bz (ar ((i7:Int) - 1)) o.rules.length))) (.wh (decide ((i7:Int) > 0)) true (.p (bz (i7:Int) o.rules.length)))) fun _ =>
 .br ((decide ((i7:Int) > 0))&&(decide (((o.rules.getD ((ar ((i7:Int) - 1)).toNat) default).ask)≥((o.rules.getD i7 default).ask))))
 (.fin (.inl (.inl false)))
 (.nx 10 4 i7 (i7+1))))
 (.fin (.inl (.inr ()))))
 (fun (_:Unit)=>⟨[],[]⟩) fun _ =>
 .fin true
def Hn o:=(iB o).val
theorem Ae (o:Order):(iB o).dz (fun (x:Bool)=>x=true→(∀ j,j < o.aF.length→0≤(o.aF.getD j default).wA∧(o.aF.getD j default).wA < 5)∧o.aF.length≤22∧o.rules.length≤22∧Nl o):=by
 refine Sk.bq _ ?_
 unfold iB
 simp only [Sk.cV,Sk.aU,reduceCtorEq,ON,kk,kp,aK,bN,forall_eq,maxLen]
 refine ⟨⟨⟨fun j hj=>absurd hj (by omega),Nat.zero_le _⟩,fun i hi=>⟨fun hc h1 _ h2 _=>?_,fun hc j hj=>?_⟩⟩,fun _ hJ=>⟨⟨⟨fun j hj=>absurd hj (by omega),Nat.zero_le _⟩,fun i hi=>⟨fun hc h1 _ h2 _=>?_,fun hc j hj=>?_⟩⟩,fun _ hJ2=>⟨fun j hj=>⟨(hJ j hj).2.1,(hJ j hj).2.2.1⟩,?_,?_,fun j hj h0=>(hJ j hj).2.2.2 h0⟩⟩⟩
 rotate_right
 rotate_right
 ·rcases Nat.lt_or_ge 22 o.aF.length with h | h
  ·have:=(hJ 22 h).1; omega
  ·exact h
 ·rcases Nat.lt_or_ge 22 o.rules.length with h | h
  ·have:=hJ2 22 h; omega
  ·exact h
 all_goals simp only [LN] at hc
 ·simp only [LN] at h1 h2
  refine ⟨⟨fun j hj=>?_,by omega⟩,by omega⟩
  by_cases e:j=i
  ·subst e
   refine ⟨⟨?_,by omega⟩,by omega,by omega,fun hj0=>?_⟩
   rotate_left
   ·have h3:=hi.1 (j - 1) (by omega)
    have h4:=h2.resolve_left (by omega)
    rw [az (by omega) (by omega),show ((j:Int) - 1).toNat=j - 1 by omega] at h4
    omega
   by_cases e0:j=0
   ·subst e0; omega
   ·have h3:=hi.1 (j - 1) (by omega)
    have h4:=h2.resolve_left (by omega)
    rw [az (by omega) (by omega),show ((j:Int) - 1).toNat=j - 1 by omega] at h4
    omega
  ·exact hi.1 j (by omega)
 ·exact hi.1 j (by omega)
 ·simp only [LN] at h1 h2
  refine ⟨⟨fun j hj=>?_,by omega⟩,by omega⟩
  by_cases e:j=i
  ·subst e
   refine ⟨?_,by omega⟩
   by_cases e0:j=0
   ·subst e0; omega
   ·have h3:=hi.1 (j - 1) (by omega)
    have h4:=h2.resolve_left (by omega)
    rw [az (by omega) (by omega),show ((j:Int) - 1).toNat=j - 1 by omega] at h4
    omega
  ·exact hi.1 j (by omega)
 ·exact hi.1 j (by omega)
theorem BZ (o:Order):(iB o).bE (fun _=>True):=by
 refine Sk.bm _ ?_
 unfold iB
 simp only [Sk.j2,Sk.aU,reduceCtorEq,ON,kk,kp,aK,bN,forall_eq,maxLen]
 refine ⟨⟨⟨fun j hj=>absurd hj (by omega),Nat.zero_le _⟩,fun i hi hm=>⟨fun hc=>⟨⟨?_,fun _=>?_⟩,fun h1=>⟨⟨fun h3=>?_,fun _=>?_⟩,fun _ h2 _=>⟨?_,?_⟩⟩⟩,fun hc j hj=>?_⟩⟩,fun _ hJ=>⟨⟨fun j hj=>absurd hj (by omega),Nat.zero_le _⟩,fun i hi hm=>⟨fun hc=>⟨?_,fun h1=>⟨⟨fun h3=>?_,fun _=>?_⟩,fun _ h2 _=>⟨?_,?_⟩⟩⟩,fun hc j hj=>?_⟩⟩⟩
 all_goals simp only [LN] at hc
 ·exact ⟨by omega,by omega⟩
 ·exact ⟨by omega,by omega⟩
 ·simp only [LN] at h3
  rw [az (by omega) (by omega)]
  exact ⟨by omega,by omega⟩
 ·exact ⟨by omega,by omega⟩
 ·exact (az (by omega) (by omega)).trans (by omega)
 ·simp only [LN] at h1 h2
  refine ⟨⟨fun j hj=>?_,by omega⟩,by omega⟩
  by_cases e:j=i
  ·subst e
   refine ⟨⟨?_,by omega⟩,by omega,by omega,fun hj0=>?_⟩
   rotate_left
   ·have h3:=hi.1 (j - 1) (by omega)
    have h4:=h2.resolve_left (by omega)
    rw [az (by omega) (by omega),show ((j:Int) - 1).toNat=j - 1 by omega] at h4
    omega
   by_cases e0:j=0
   ·subst e0; omega
   ·have h3:=hi.1 (j - 1) (by omega)
    have h4:=h2.resolve_left (by omega)
    rw [az (by omega) (by omega),show ((j:Int) - 1).toNat=j - 1 by omega] at h4
    omega
  ·exact hi.1 j (by omega)
 ·exact hi.1 j (by omega)
 ·exact ⟨by omega,by omega⟩
 ·simp only [LN] at h3
  rw [az (by omega) (by omega)]
  exact ⟨by omega,by omega⟩
 ·exact ⟨by omega,by omega⟩
 ·exact (az (by omega) (by omega)).trans (by omega)
 ·simp only [LN] at h1 h2
  refine ⟨⟨fun j hj=>?_,by omega⟩,by omega⟩
  by_cases e:j=i
  ·subst e
   refine ⟨?_,by omega⟩
   by_cases e0:j=0
   ·subst e0; omega
   ·have h3:=hi.1 (j - 1) (by omega)
    have h4:=h2.resolve_left (by omega)
    rw [az (by omega) (by omega),show ((j:Int) - 1).toNat=j - 1 by omega] at h4
    omega
  ·exact hi.1 j (by omega)
 ·exact hi.1 j (by omega)
def oI o:=kp tok mixed Tryz.func73 [av o.cells] (fun x=>bv x) true (Hn o) (u0 (BZ o)) (Ae o)
def lW (r:af):Sk (Int) :=
 .br (decide (((r.al.length:Nat):Int) > 20))
 (.fin 6)
 (.bind true (fun b1=>r.ck∧(∀ i,i < r.al.length→(r.al.getD i default).aF.length≤22∧(r.al.getD i default).rules.length≤22)∧(∀ i,i < r.al.length→Nl (r.al.getD i default)))
 (.loop (default:Sum (Int) (Unit)) (fun i2=>i2.1.length=i2.2∧i2.2≤r.al.length∧(∀ i j,i < i2.2→j < (r.al.getD i default).aF.length→0≤((r.al.getD i default).aF.getD j default).wA∧((r.al.getD i default).aF.getD j default).wA < 5)∧(∀ i,i < i2.2→(r.al.getD i default).aF.length≤22∧(r.al.getD i default).rules.length≤22)∧(∀ i,i < i2.2→Nl (r.al.getD i default))) (fun i2=>r.al.length - i2.2) (([],0):(List ByteArray) × Nat)
 (fun (i2:(List ByteArray) × Nat)=>⟨[(3,ow 100001 i2.1),(4,iv (i2.2:Int))],[(100001,fg 9 1 gV i2.1)]⟩) fun i2 =>
 .lt 1 4 i2.2 r.al.length
 (.r 7 (.au (.p (bz (i2.2:Int) r.al.length)) (.au (.o [.dy (gr tI [(r.al.getD i2.2 default).name])]) (.au (.o [.dy (nY tI i2.1 [(r.al.getD i2.2 default).name])]) (.au (.t (tI.sE [(r.al.getD i2.2 default).name])) (.p (zb i2.1.length [(r.al.getD i2.2 default).name].length 16)))))) fun _ =>
 .r 8 ((gx (i2.1++[(r.al.getD i2.2 default).name]) (i2.2:Int)).c) fun x3 =>
 .br (x3 != 0)
 (.fin (.inl (.inl x3)))
 (.r 11 (.au (.p (bz (i2.2:Int) r.al.length)) ((oI (r.al.getD i2.2 default)).c)) fun x4 =>
 .br (!x4)
 (.fin (.inl (.inl 1)))
 (.nx 6 4 i2.2 (i2.1++[(r.al.getD i2.2 default).name],i2.2+1))))
 (.fin (.inl (.inr ()))))
 (fun (_:Unit)=>⟨[],[]⟩) fun _ =>
 .fin 0)
def sf r:=(lW r).val
theorem xV (r:af):(lW r).dz (fun (x:Int)=>x=0→r.ck∧r.al.length≤20∧(∀ i,i < r.al.length→(r.al.getD i default).aF.length≤22∧(r.al.getD i default).rules.length≤22)∧(∀ i,i < r.al.length→Nl (r.al.getD i default))):=by
 refine Sk.bq _ ?_
 unfold lW
 simp only [Sk.cV,Sk.aU,reduceCtorEq,ON,kk,kp,oI,gx,maxLen]
 refine ⟨fun _ h=>absurd h (by decide),fun h20=>⟨⟨⟨rfl,Nat.zero_le _,fun i j h=>absurd h (by omega),fun i h=>absurd h (by omega),fun i h=>absurd h (by omega)⟩,fun i hi=>⟨fun hc _ x _=>⟨fun hx h0=>?_,fun hx y _ hy=>⟨fun _ h=>absurd h (by decide),fun hyt _=>?_⟩⟩,fun hc=>?_⟩⟩,fun b hb=>?_⟩⟩
 ·rw [h0] at hx; exact absurd hx (by decide)
 ·simp only [LN] at hc hyt
  have hy:=hy hyt
  refine ⟨⟨by rw [List.length_append]; show i.1.length+1=_; omega,by omega,fun a b ha hb=>?_,fun a ha=>?_,fun a ha=>?_⟩,by omega⟩
  ·rcases Nat.lt_succ_iff_lt_or_eq.1 ha with h | rfl
   ·exact hi.2.2.1 a b h hb
   ·exact hy.1 b hb
  ·rcases Nat.lt_succ_iff_lt_or_eq.1 ha with h | rfl
   ·exact hi.2.2.2.1 a h
   ·exact ⟨hy.2.1,hy.2.2.1⟩
  ·rcases Nat.lt_succ_iff_lt_or_eq.1 ha with h | rfl
   ·exact hi.2.2.2.2 a h
   ·exact hy.2.2.2
 ·simp only [LN] at hc
  exact ⟨fun a b ha hb=>hi.2.2.1 a b (by omega) hb,fun a ha=>hi.2.2.2.1 a (by omega),fun a ha=>hi.2.2.2.2 a (by omega)⟩
 ·simp only [LN] at h20
  exact ⟨hb.1,by omega,hb.2.1,hb.2.2⟩
theorem E1 (r:af):(fun (x:Int)=>x=0→r.ck∧r.al.length≤20∧(∀ i,i < r.al.length→(r.al.getD i default).aF.length≤22∧(r.al.getD i default).rules.length≤22)∧(∀ i,i < r.al.length→Nl (r.al.getD i default))) (sf r):=have h:=Sk.dA _ (xV r); h
theorem Jd (r:af):(lW r).bE (fun _=>True):=by
 refine Sk.bm _ ?_
 unfold lW
 simp only [Sk.j2,Sk.aU,reduceCtorEq,ON,kk,kp,oI,gx,maxLen]
 refine fun h20=>⟨⟨rfl,Nat.zero_le _,fun i j h=>absurd h (by omega),fun i h=>absurd h (by omega),fun i h=>absurd h (by omega)⟩,fun i hi hm=>⟨fun hc=>⟨⟨⟨by omega,of_decide_eq_true hc⟩,?_,?_⟩,fun _=>⟨⟨by omega,?_⟩,fun x _ hx=>⟨⟨by omega,of_decide_eq_true hc⟩,fun y _ hy hyt _=>?_⟩⟩⟩,fun hc=>?_⟩⟩
 all_goals simp only [LN] at h20
 ·show i.1.length+1≤_; omega
 ·show (i.1.length+1) * 16≤_; omega
 ·rw [List.length_append]; show _ < ((i.1.length+1:Nat):Int); omega
 ·simp only [LN] at hc hyt
  have hy:=hy hyt
  refine ⟨(az (by omega) (by omega)).trans (by omega),⟨by rw [List.length_append]; show i.1.length+1=_; omega,by omega,fun a b ha hb=>?_,fun a ha=>?_,fun a ha=>?_⟩,by omega⟩
  ·rcases Nat.lt_succ_iff_lt_or_eq.1 ha with h | rfl
   ·exact hi.2.2.1 a b h hb
   ·exact hy.1 b hb
  ·rcases Nat.lt_succ_iff_lt_or_eq.1 ha with h | rfl
   ·exact hi.2.2.2.1 a h
   ·exact ⟨hy.2.1,hy.2.2.1⟩
  ·rcases Nat.lt_succ_iff_lt_or_eq.1 ha with h | rfl
   ·exact hi.2.2.2.2 a h
   ·exact hy.2.2.2
 ·simp only [LN] at hc
  exact ⟨fun a b ha hb=>hi.2.2.1 a b (by omega) hb,fun a ha=>hi.2.2.2.1 a (by omega),fun a ha=>hi.2.2.2.2 a (by omega)⟩
def vL r:=kp tok mixed Tryz.func44 [av r.cells] (fun x=>iv x) true (sf r) (u0 (Jd r)) (xV r)
def kZ (r:af):Sk (Int) :=
 .br (decide (((r.aM.length:Nat):Int) > 100))
 (.fin 6)
 (.bt
 (.loop (default:Sum (Int) (Unit)) (fun i2=>i2≤r.aM.length) (fun i2=>r.aM.length - i2) (0:Nat)
 (fun (i2:Nat)=>⟨[(3,iv (i2:Int))],[]⟩) fun i2 =>
 .lt 1 5 i2 r.aM.length
 (.bt
 (.r 6 (.p (bz (i2:Int) r.aM.length)) fun _ =>
 .r 7 (.dep ((aK ((r.aM.getD i2 default).from_) 0 (ar (((r.aC.length:Nat):Int) - 1))).c) fun x4=>.dep (.wh (!x4) false ((aK ((r.aM.getD i2 default).bZ) 0 (ar (((r.aC.length:Nat):Int) - 1))).c)) fun x5=>.wh ((!x4)||(!x5)) false ((aK ((r.aM.getD i2 default).days) 1 20000).c)) fun p9 =>
 .br (((!p9.1)||(!p9.2.1))||(!p9.2.2))
 (.fin (.inl (.inl (.inl 1))))
 (.bt
 (.loop (default:Sum (Sum (Sum (Sum (Int) (Unit)) (Nat)) (Int × (List dh) × Int × dh × Int × (List dL) × Int × Int × Bool × Bool × Bool × Bool × Bool × Bool × Int × Int × Bool)) (Int × Int × Int × Bool)) (fun i8=>i8≤i2) (fun i8=>i2 - i8) (0:Nat)
 (fun (i8:Nat)=>⟨[(5,iv (i8:Int))],[]⟩) fun i8 =>
 .br (decide ((i8:Int) < (i2:Int)))
 (.r 12 (.au (.p (bz (i8:Int) r.aM.length)) (.wh (((r.aM.getD i8 default).from_) == ((r.aM.getD i2 default).from_)) true (.p (bz (i8:Int) r.aM.length)))) fun _ =>
 .br ((((r.aM.getD i8 default).from_) == ((r.aM.getD i2 default).from_))&&(((r.aM.getD i8 default).bZ) == ((r.aM.getD i2 default).bZ)))
 (.fin (.inl (.inl (.inl (.inl (.inl 5))))))
 (.nx 11 5 i8 (i8+1)))
 (.fin (.inl (.inr ((i8:Int),(i8:Int),(i2:Int),decide ((i8:Int) < (i2:Int)))))))
 (fun (b7:Int × Int × Int × Bool)=>⟨[(5,iv b7.1),(46,iv b7.2.1),(47,iv b7.2.2.1),(48,bv b7.2.2.2)],[]⟩) fun b7 =>
 .fin (.inr (b7.1,r.aM,(i2:Int),r.aM.getD i2 default,(r.aM.getD i2 default).from_,r.aC,((r.aC.length:Nat):Int),ar (((r.aC.length:Nat):Int) - 1),p9.1,!p9.1,!p9.1,(!p9.1)||(!p9.2.1),(!p9.1)||(!p9.2.1),((!p9.1)||(!p9.2.1))||(!p9.2.2),b7.2.1,b7.2.2.1,b7.2.2.2))))
 (fun (b3:Int × (List dh) × Int × dh × Int × (List dL) × Int × Int × Bool × Bool × Bool × Bool × Bool × Bool × Int × Int × Bool)=>⟨[(5,iv b3.1),(18,lv dh.cells b3.2.1),(19,iv b3.2.2.1),(21,av b3.2.2.2.1.cells),(23,iv b3.2.2.2.2.1),(25,lv dL.cells b3.2.2.2.2.2.1),(26,iv b3.2.2.2.2.2.2.1),(27,iv b3.2.2.2.2.2.2.2.1),(28,bv b3.2.2.2.2.2.2.2.2.1),(29,bv b3.2.2.2.2.2.2.2.2.2.1),(30,bv b3.2.2.2.2.2.2.2.2.2.2.1),(39,bv b3.2.2.2.2.2.2.2.2.2.2.2.1),(40,bv b3.2.2.2.2.2.2.2.2.2.2.2.2.1),(45,bv b3.2.2.2.2.2.2.2.2.2.2.2.2.2.1),(46,iv b3.2.2.2.2.2.2.2.2.2.2.2.2.2.2.1),(47,iv b3.2.2.2.2.2.2.2.2.2.2.2.2.2.2.2.1),(48,bv b3.2.2.2.2.2.2.2.2.2.2.2.2.2.2.2.2)],[]⟩) fun _ =>
 .nx 5 3 i2 (i2+1))
 (.fin (.inl (.inr ()))))
 (fun (_:Unit)=>⟨[],[]⟩) fun _ =>
 .fin 0)
def D4 r:=(kZ r).val
theorem E2 (r:af):(kZ r).dz (fun (x:Int)=>x=0→r.aM.length≤100):=by
 unfold kZ
 try simp only [aK,bN]
 exact Su
theorem Ho (r:af):(kZ r).bE (fun _=>True):=by
 unfold kZ
 try simp only [aK,bN]
 exact qJ
def tY r:=kp tok mixed Tryz.func45 [av r.cells] (fun x=>iv x) true (D4 r) (u0 (Ho r)) (E2 r)
def lX (r:af):Sk (Int) :=
 .br (decide (((r.ak.length:Nat):Int) > 100))
 (.fin 6)
 (.bind true (fun b1=>r.zZ)
 (.loop (default:Sum (Int) (Unit)) (fun i2=>i2≤r.ak.length∧(∀ i,i < i2→(1≤(r.ak.getD i default).num∧(r.ak.getD i default).num≤1073741824)∧1≤(r.ak.getD i default).den∧(r.ak.getD i default).den≤1073741824)) (fun i2=>r.ak.length - i2) (0:Nat)
 (fun (i2:Nat)=>⟨[(3,iv (i2:Int))],[]⟩) fun i2 =>
 .lt 1 6 i2 r.ak.length
 (.r 6 (.p (bz (i2:Int) r.ak.length)) fun _ =>
 .r 7 (.dep ((aK ((r.ak.getD i2 default).from_) 0 (ar (((r.aX.length:Nat):Int) - 1))).c) fun x3=>.wh (!x3) false ((aK ((r.ak.getD i2 default).bZ) 0 (ar (((r.aX.length:Nat):Int) - 1))).c)) fun p9 =>
 .br (((!p9.1)||(!p9.2))||(((r.ak.getD i2 default).from_) == ((r.ak.getD i2 default).bZ)))
 (.fin (.inl (.inl 1)))
 (.r 9 (.dep ((aK ((r.ak.getD i2 default).num) 1 1073741824).c) fun x5=>.dep (.wh (!x5) false ((aK ((r.ak.getD i2 default).den) 1 1073741824).c)) fun x6=>.wh ((!x5)||(!x6)) false ((aK ((r.ak.getD i2 default).since) 0 100000).c)) fun p8 =>
 .br (((!p8.1)||(!p8.2.1))||(!p8.2.2))
 (.fin (.inl (.inl 1)))
 (.nx 5 3 i2 (i2+1))))
 (.fin (.inl (.inr ()))))
 (fun (_:Unit)=>⟨[],[]⟩) fun _ =>
 .br (decide (((r.bJ.length:Nat):Int) > 20))
 (.fin 6)
 (.bind true (fun b10=>r.ba)
 (.loop (default:Sum (Int) (Unit)) (fun i11=>i11≤r.bJ.length∧(∀ i,i < i11→(r.bJ.getD i default).bZ≤100000)) (fun i11=>r.bJ.length - i11) (0:Nat)
 (fun (i11:Nat)=>⟨[(5,iv (i11:Int))],[]⟩) fun i11 =>
 .lt 1 7 i11 r.bJ.length
 (.r 16 (.p (bz (i11:Int) r.bJ.length)) fun _ =>
 .r 17 (.dep ((aK ((r.bJ.getD i11 default).order) 0 (ar (((r.al.length:Nat):Int) - 1))).c) fun YY=>.wh (!YY) false ((aK ((r.bJ.getD i11 default).from_) 0 ((r.bJ.getD i11 default).bZ)).c)) fun UP =>
 .br (((!UP.1)||(!UP.2))||(decide (((r.bJ.getD i11 default).bZ) > 100000)))
 (.fin (.inl (.inl 1)))
 (.nx 15 5 i11 (i11+1)))
 (.fin (.inl (.inr ()))))
 (fun (_:Unit)=>⟨[],[]⟩) fun _ =>
 .fin 0))
def Hp r:=(lX r).val
theorem Hq (r:af):(lX r).dz (fun (x:Int)=>x=0→r.ak.length≤100∧r.bJ.length≤20∧r.zZ∧r.ba):=by
 unfold lX
 try simp only [aK,bN,af.ba,af.zZ]
 exact Su
theorem Je (r:af):(lX r).bE (fun _=>True):=by
 unfold lX
 try simp only [aK,bN,af.ba,af.zZ]
 exact qJ
def vM r:=kp tok mixed Tryz.func46 [av r.cells] (fun x=>iv x) true (Hp r) (u0 (Je r)) (Hq r)
def nK (r:af):Sk (Int) :=
 .r 1 ((vK r).c) fun x1 =>
 .bind false (fun b2=>b2=0→r.aX.length≤8∧r.aC.length≤40∧r.fh.length≤20∧r.bg.length≤200∧r.rM)
 (.br (x1 == 0)
 (.r 3 ((xU r).c) fun x3 =>
 .fin (.inr x3))
 (.fin (.inr x1)))
 (fun (b2:Int)=>⟨[(3,iv b2)],[]⟩) fun b2 =>
 .bind false (fun b4=>b4=0→r.aX.length≤8∧r.aC.length≤40∧r.fh.length≤20∧r.bg.length≤200∧r.rM∧r.ck∧r.al.length≤20∧(∀ i,i < r.al.length→(r.al.getD i default).aF.length≤22∧(r.al.getD i default).rules.length≤22))
 (.br (b2 == 0)
 (.r 5 ((vL r).c) fun x5 =>
 .fin (.inr x5))
 (.fin (.inr b2)))
 (fun (b4:Int)=>⟨[(3,iv b4)],[]⟩) fun b4 =>
 .bind false (fun b6=>b6=0→r.aX.length≤8∧r.aC.length≤40∧r.fh.length≤20∧r.bg.length≤200∧r.rM∧r.ck∧r.al.length≤20∧(∀ i,i < r.al.length→(r.al.getD i default).aF.length≤22∧(r.al.getD i default).rules.length≤22)∧r.aM.length≤100)
 (.br (b4 == 0)
 (.r 7 ((tY r).c) fun x7 =>
 .fin (.inr x7))
 (.fin (.inr b4)))
 (fun (b6:Int)=>⟨[(3,iv b6)],[]⟩) fun b6 =>
 .br (b6 == 0)
 (.r 9 ((vM r).c) fun x8 =>
 .fin x8)
 (.fin b6)
def lC r:=(nK r).val
theorem Jf (r:af):(nK r).dz (fun (x:Int)=>x=0→r.aX.length≤8∧r.aC.length≤40∧r.fh.length≤20∧r.bg.length≤200∧r.rM∧r.ck∧r.al.length≤20∧(∀ i,i < r.al.length→(r.al.getD i default).aF.length≤22∧(r.al.getD i default).rules.length≤22)∧r.aM.length≤100∧r.ak.length≤100∧r.bJ.length≤20∧r.zZ∧r.ba):=by
 refine Sk.bq _ ?_
 unfold nK
 simp only [Sk.cV,Sk.aU,reduceCtorEq,ON,kk,kp,vK,xU,vL,vM,tY,maxLen]
 intro x _ hx
 refine ⟨⟨fun h y _ hy h0=>?_,fun h h0=>?_⟩,fun b _ hb=>⟨⟨fun h y _ hy h0=>?_,fun h h0=>?_⟩,fun b2 _ Ik=>⟨⟨fun h y _ hy h0=>?_,fun h h0=>?_⟩,fun b3 _ Sh=>⟨fun h y _ hy h0=>?_,fun h h0=>?_⟩⟩⟩⟩
 ·have hx:=hx (by simpa using h); have hy:=hy hx.2.1 h0; exact ⟨hx.1,hx.2.1,hy⟩
 ·rw [h0] at h; exact absurd h (by decide)
 ·have hb:=hb (by simpa using h); exact ⟨hb.1,hb.2.1,hb.2.2.1,hb.2.2.2.1,hb.2.2.2.2,(hy h0).1,(hy h0).2.1,(hy h0).2.2.1⟩
 ·rw [h0] at h; exact absurd h (by decide)
 ·have hb:=Ik (by simpa using h); exact ⟨hb.1,hb.2.1,hb.2.2.1,hb.2.2.2.1,hb.2.2.2.2.1,hb.2.2.2.2.2.1,hb.2.2.2.2.2.2.1,hb.2.2.2.2.2.2.2,hy h0⟩
 ·rw [h0] at h; exact absurd h (by decide)
 ·have hb:=Sh (by simpa using h); exact ⟨hb.1,hb.2.1,hb.2.2.1,hb.2.2.2.1,hb.2.2.2.2.1,hb.2.2.2.2.2.1,hb.2.2.2.2.2.2.1,hb.2.2.2.2.2.2.2.1,hb.2.2.2.2.2.2.2.2,hy h0⟩
 ·rw [h0] at h; exact absurd h (by decide)
theorem Lu (r:af):(nK r).bE (fun _=>True):=by
 refine Sk.bm _ ?_
 unfold nK
 simp only [Sk.j2,Sk.aU,reduceCtorEq,ON,kk,kp,vK,xU,vL,vM,tY,maxLen]
 intro x _ hx
 refine ⟨⟨fun h y _ hy h0=>?_,fun h h0=>?_⟩,fun b _ hb=>⟨⟨fun h y _ hy h0=>?_,fun h h0=>?_⟩,fun b2 _ Ik=>⟨fun h y _ hy h0=>?_,fun h h0=>?_⟩⟩⟩
 ·have hx:=hx (by simpa using h); have hy:=hy hx.2.1 h0; exact ⟨hx.1,hx.2.1,hy⟩
 ·rw [h0] at h; exact absurd h (by decide)
 ·have hb:=hb (by simpa using h); exact ⟨hb.1,hb.2.1,hb.2.2.1,hb.2.2.2.1,hb.2.2.2.2,(hy h0).1,(hy h0).2.1,(hy h0).2.2.1⟩
 ·rw [h0] at h; exact absurd h (by decide)
 ·have hb:=Ik (by simpa using h); exact ⟨hb.1,hb.2.1,hb.2.2.1,hb.2.2.2.1,hb.2.2.2.2.1,hb.2.2.2.2.2.1,hb.2.2.2.2.2.2.1,hb.2.2.2.2.2.2.2,hy h0⟩
 ·rw [h0] at h; exact absurd h (by decide)
def pT r:=kp tok mixed Tryz.func21 [av r.cells] (fun x=>iv x) true (lC r) (u0 (Lu r)) (Jf r)
def lD (n:Int) (length:Int):Sk (Bool) :=
 .fin ((decide (n≥0))&&(decide (n < length)))
def zE n length:=(lD n length).val
theorem uS (n:Int) (length:Int):zE n length=((decide (n≥0))&&(decide (n < length))):=rfl
theorem Dt (n:Int) (length:Int):(lD n length).bE (fun _=>True):=by
 unfold lD
 exact mY
def dY n length:=kk tok mixed Tryz.func75 [iv n,iv length] (fun x=>bv x) true (lD n length) (zE n length) (u0 (Dt n length))
end
end
end Go.Proofs.YtcpmocecjgipbaaGreatDoor
