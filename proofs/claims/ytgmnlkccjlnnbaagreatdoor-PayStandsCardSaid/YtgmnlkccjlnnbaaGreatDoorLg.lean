/- A function by hand. -/
import Derived.Test.YtgmnlkccjlnnbaaGreatDoorLf
import Derived.RangeFuncNested
import Derived.RangeFuncBound
import Derived.RangeFuncBox
import Derived.RangeFuncFrom
import Derived.RangeFuncCalls
import Derived.RangeFuncLeaves
import Derived.Shelf.Abstract
import Derived.OwnWalkIn
import Derived.TacticsInMore
import Derived.LoopNIn
import Derived.LoopIn
import Derived.Test.YtgmnlkccjlnnbaaGreatDoorLd
set_option linter.unusedSimpArgs false
set_option linter.unusedVariables false
set_option maxHeartbeats 1000000
set_option maxRecDepth 100000
namespace Go.Proofs.YtgmnlkccjlnnbaaGreatDoor
noncomputable section
open Go Go.Av Go.RowKit Go.Shelf
section
attribute [local go_sem] Oper.semAt_some
set_option linter.unusedSimpArgs false
set_option linter.unusedVariables false
set_option maxHeartbeats 1000000
set_option maxRecDepth 100000
/-- JS first open day from one day to Q1 -/
def rS (c:gX):Nat→Int→Option Int
  | 0,_=>none
  | n+1,d=>bif eX c d then some d else rS c n (d+1)
def yC (c:gX) (day last:Int):Option Int:=rS c (last - day+1).toNat day
def dh (c:gX) (day:Int):Int × Int :=
  bif !(dN day) then (0,3) else match yC c day (min (aq (day+400)) 100000) with | some d=>(d,0) | none=>(0,3)
theorem Tryz.ntmps232:Tryz.f232.ntmps=21:=by kernel_rfl
theorem Tryz.ntmps193:Tryz.f193.ntmps=18:=by kernel_rfl

def dP (c:gX):Nat→Int→List Int
  | 0,_=>[]
  | n+1,d=>bif eX c d then d :: dP c n (d+1) else dP c n (d+1)

theorem Qm (c:gX) (d:Int) (v:Value) (w:World) (S:Nat→Prop) (hb:∀ b,S b→b < w.heap.size) (hg:gT w S) (hr:Rd w S (.agg c.cells) v) :
    Calls Tryz.prog 233 #[v,.int .i64 d] w fun e w'=>e=.returned (.bool (eX c d))∧w.grownBy w' none:=by
  refine Calls.mono ((C3 c d).2 w S (fun _=>none) #[v,.int .i64 d] hb hg (fun ν=>⟨rfl,fun i hi=>?_⟩) (fun κ b h=>by simp [Go.Av.look] at h) (fun κ κ' b b' g c c' h=>by simp [Go.Av.look] at h)) ?_
  · match i,hi with
    | 0,_=>exact .d hr
    | 1,_=>exact fB rfl
    | i+2,hi=>simp at hi; omega
  · rintro e w' ⟨u,S',μ',rfl,B⟩
    have hu:u=.bool (eX c d):=lu (B.res fun _=>false)
    subst hu
    exact ⟨rfl,B.kept.os,B.kept.tape,B.kept.output,B.kept.size,fun k hk _=>B.kept.block k hk (fun ⟨κ,b,c,h,_⟩=>by simp [Go.Av.look] at h)⟩

theorem U9 (l bf bt bc n₁ m:Nat) (c:gX) (from_ last:Int) (v0 v1 v2 v3 v4 v5:Value) (S:Nat→Prop) (J Jx:List Int→World→Prop)
    (adD : -9000000000000000000≤from_) (XG:last≤9000000000000000000) (hS:∀ b,S b→b < n₁) (hbf:bf < n₁) (hbt:bt < n₁) (VX:bc < n₁) (hJ:AbidesFrom m J)
    (hY:∀ pre x W,J pre W→pre.length < (dP c (last - from_+1).toNat from_).length→YieldAt Fence.wide 2 Tryz.prog l #[.int .i64 x] W fun e W' =>
      (e=.returned (.bool true)∧J (pre++[x]) W'∧Below n₁ W W')∨(e=.returned (.bool false)∧Jx (pre++[x]) W'))
    (W:World) (hn₁:n₁≤W.heap.size) (hG:gT W S) (hR:Rd W S (.agg c.cells) (.agg #[v0,v1,v2,v3,v4,v5]))
    (hBf:W.cell? ⟨bf,0,none⟩=some (.int .i64 from_)) (hBt:W.cell? ⟨bt,0,none⟩=some (.int .i64 last))
    (hC0:W.cell? ⟨bc,0,none⟩=some v0) (hC1:W.cell? ⟨bc,1,none⟩=some v1) (hC2:W.cell? ⟨bc,2,none⟩=some v2) (hC3:W.cell? ⟨bc,3,none⟩=some v3) (hC4:W.cell? ⟨bc,4,none⟩=some v4) (hC5:W.cell? ⟨bc,5,none⟩=some v5) (h0:J [] W) :
    CallsIn Fence.wide 3 Tryz.prog 232 #[.func (.yield l) #[] #[],.pointer (some ⟨bf,0,none⟩),.pointer (some ⟨bt,0,none⟩),.pointer (some ⟨bc,0,none⟩)] W fun e W'=>(∃ v,e=.returned v) ∧
      ((∃ ys,ys=dP c (last - from_+1).toNat from_∧J ys W')∨(∃ pre,pre <+: dP c (last - from_+1).toNat from_∧Jx pre W')):=by
  refine callsIn_of_wp Tryz.func232 rfl trivial ?_ rfl
  simp only [Tryz.ntmps232,List.size_toArray,List.length_cons,List.length_nil,Nat.reduceAdd,Nat.reduceSub,Array.replicate_succ,Array.replicate_zero,List.push_toArray,List.append_toArray,List.nil_append,List.cons_append]
  gi_wp2
  gi_loopw [5] (fun p wr=>∃ (d:Int) (pre:List Int),p=.int .i64 d∧from_≤d∧dP c (last - from_+1).toNat from_=pre++dP c (last - d+1).toNat d∧J pre wr∧Below n₁ W wr)
    (fun p _=>(last+1 - intOf p).toNat)
  case atStart=>exact ⟨from_,[],rfl,Int.le_refl _,rfl,h0,Below.refl _ _⟩
  case round =>
    obtain ⟨d,pre,rfl,hd,hx,hJs,zS⟩:=hrel
    have adR:wr.cell? ⟨bt,0,none⟩=some (.int .i64 last):=(zS.cell (p:=⟨bt,0,none⟩) hbt).trans hBt
    have adS:=(zS.cell (p:=⟨bc,0,none⟩) VX).trans hC0
    have adT:=(zS.cell (p:=⟨bc,1,none⟩) VX).trans hC1
    have adU:=(zS.cell (p:=⟨bc,2,none⟩) VX).trans hC2
    have adV:=(zS.cell (p:=⟨bc,3,none⟩) VX).trans hC3
    have adW:=(zS.cell (p:=⟨bc,4,none⟩) VX).trans hC4
    have adX:=(zS.cell (p:=⟨bc,5,none⟩) VX).trans hC5
    have RA:=Qm c d (.agg #[v0,v1,v2,v3,v4,v5]) wr S (fun b hb=>Nat.lt_of_lt_of_le (hS b hb) (Nat.le_trans hn₁ zS.size)) (hG.mono (fun _ h=>h) (fun b hb=>zS.block b (hS b hb))) (hR.mono (fun _ h=>h) (fun b hb=>zS.block b (hS b hb)))
    have hJ2:∀ W2,wr.grownBy W2 none→J pre W2:=fun W2 hg=>hJ pre wr W2 none hJs hg (fun r e=>by cases e)
    have YO:∀ W2,wr.grownBy W2 none→Below n₁ W W2:=fun W2 hg=>zS.trans ⟨hg.os,hg.tape,hg.output,hg.size,fun k hk=>hg.block k (Nat.lt_of_lt_of_le hk (Nat.le_trans hn₁ zS.size)) (by simp)⟩
    by_cases hle:d≤last
    · have hfu:(last - d+1).toNat=(last - (d+1)+1).toNat+1:=by omega
      cases ho:eX c d with
      | true =>
        rw [ho] at RA
        rw [hfu,dP,ho,cond_true] at hx
        have hlen:pre.length < (dP c (last - from_+1).toNat from_).length:=by rw [hx]; simp
        gi_wp2
        refine ⟨trivial,(callsIn_wide.2 RA).mono ?_⟩
        rintro e W2 ⟨rfl,Ml⟩
        obtain ⟨fn,tmps,assign,body,hy,hRR⟩:=hY pre d W2 (hJ2 W2 Ml) hlen
        gi_wp2
        refine hRR.mono ?_
        rintro e W3 (⟨rfl,hJ3,hk3⟩ | ⟨rfl,ac8⟩)
        · gi_wp2
          go_roundw
          case rel=>exact ⟨d+1,pre++[d],by simp,by omega,by rw [hx]; simp,hJ3,(YO W2 Ml).trans hk3⟩
          case measure=>simp [intOf]; omega
        · gi_wp2
          refine bodyPost_ret (results_none rfl _ _ _) rfl ?_
          exact ⟨⟨_,rfl⟩,.inr ⟨pre++[d],⟨dP c (last - (d+1)+1).toNat (d+1),by rw [hx]; simp⟩,ac8⟩⟩
      | false =>
        rw [ho] at RA
        rw [hfu,dP,ho,cond_false] at hx
        gi_wp2
        refine ⟨trivial,(callsIn_wide.2 RA).mono ?_⟩
        rintro e W2 ⟨rfl,Ml⟩
        gi_wp2
        refine ⟨fun _ h=>(by cases h),?_⟩
        gi_wp2
        go_roundw
        case rel=>exact ⟨d+1,pre,by simp,by omega,hx,hJ2 W2 Ml,YO W2 Ml⟩
        case measure=>simp [intOf]; omega
    · gi_wp2
      go_end0
      have h0:(last - d+1).toNat=0:=by omega
      rw [h0,dP,List.append_nil]
      exact ⟨⟨_,rfl⟩,.inl hJs⟩

theorem Tryz.ntmps214:Tryz.f214.ntmps=8:=by kernel_rfl
theorem WN (v0 v1 v2 v3 v4 v5:Value) (day last:Int) (w:World):CallsIn Fence.wide 3 Tryz.prog 214 #[.agg #[v0,v1,v2,v3,v4,v5],.int .i64 day,.int .i64 last] w fun e w' =>
    e=.returned (.func (.func 232) #[] #[.pointer (some ⟨w.heap.size+1,0,none⟩),.pointer (some ⟨w.heap.size+2,0,none⟩),.pointer (some ⟨w.heap.size,0,none⟩)])∧w'=((w.alloc (.cells #[v0,v1,v2,v3,v4,v5] 159)).alloc (.cells #[.int .i64 day] 3)).alloc (.cells #[.int .i64 last] 3):=by
  refine callsIn_of_wp Tryz.func214 rfl trivial ?_ rfl
  simp only [Tryz.ntmps214,List.size_toArray,List.length_cons,List.length_nil,Nat.reduceAdd,Nat.reduceSub,Array.replicate_succ,Array.replicate_zero,List.push_toArray,List.append_toArray,List.nil_append,List.cons_append]
  gi_wp2
  go_ret
  exact ⟨rfl,rfl⟩

theorem Oj (d:Int) (w:World) (S:Nat→Prop) (hb:∀ b,S b→b < w.heap.size) (hg:gT w S) :
    Calls Tryz.prog 213 #[.int .i64 d] w fun e w'=>e=.returned (.bool (dN d))∧w.grownBy w' none:=by
  refine Calls.mono ((BH d).2 w S (fun _=>none) #[.int .i64 d] hb hg (fun ν=>⟨rfl,fun i hi=>?_⟩) (fun κ b h=>by simp [Go.Av.look] at h) (fun κ κ' b b' g c c' h=>by simp [Go.Av.look] at h)) ?_
  · match i,hi with
    | 0,_=>exact fB rfl
    | i+1,hi=>simp at hi
  · rintro e w' ⟨u,S',μ',rfl,B⟩
    have hu:u=.bool (dN d):=lu (B.res fun _=>false)
    subst hu
    exact ⟨rfl,B.kept.os,B.kept.tape,B.kept.output,B.kept.size,fun k hk _=>B.kept.block k hk (fun ⟨κ,b,c,h,_⟩=>by simp [Go.Av.look] at h)⟩

theorem C4 {w w':World} {S:Nat→Prop} {T:Nat→Prop} {a b:Int} (hS:∀ q,S q→q < w.heap.size) (h:Below w.heap.size w w'):∃ v S' μ',Ending.returned (.tuple #[.int .i64 a,.int .i64 b])=.returned v∧MN w S T (.eD [iv a,iv b]) [] v S' μ' w':=by
  refine ⟨_,S,fun _=>none,rfl,⟨fun ν=>.eD rfl (fun i hi=>?_),fun κ b h=>by simp [Go.Av.look] at h,fun κ κ' b b' g c c' h=>by simp [Go.Av.look] at h,fun κ b g c h=>by simp [Go.Av.look] at h,fun _ h=>h,fun _ h=>.inl h,fun q hq=>Nat.lt_of_lt_of_le (hS q hq) h.size,⟨h.os,h.tape,h.output,h.size,fun k hk _=>h.block k hk⟩⟩⟩
  match i,hi with
  | 0,_=>exact fB rfl
  | 1,_=>exact fB rfl
  | i+2,hi=>simp at hi; omega

theorem results193 (tmps:Array Value) (W:World) (b4 b5:Nat) (x y:Int) (h4:tmps.getD 4 undef=.pointer (some ⟨b4,0,none⟩)) (h5:tmps.getD 5 undef=.pointer (some ⟨b5,0,none⟩)) (hx:W.cell? ⟨b4,0,none⟩=some (.int .i64 x)) (hy:W.cell? ⟨b5,0,none⟩=some (.int .i64 y)) :
    (results Tryz.f193 tmps).run Tryz.prog W=.ok (.tuple #[.int .i64 x,.int .i64 y]) W:=by
  have e:Tryz.f193.results = #[.cell 4 3,.cell 5 67]:=by kernel_rfl
  have u3:Tryz.prog.underlying 3=some (.int .i64):=by kernel_rfl
  have u49:Tryz.prog.underlying 67=some (.int .i64):=by kernel_rfl
  have h4':tmps[4]?.getD undef=.pointer (some ⟨b4,0,none⟩):=by simpa [Array.getD_eq_getD_getElem?] using h4
  have h5':tmps[5]?.getD undef=.pointer (some ⟨b5,0,none⟩):=by simpa [Array.getD_eq_getD_getElem?] using h5
  simp [results,e,h4',h5',go_sem,run_underlying u3,run_underlying u49,hx,hy]

theorem tC (c:gX):∀ (n:Nat) (d:Int),(dP c n d).head? = rS c n d
  | 0,_=>rfl
  | n+1,d=>by
    simp only [dP,rS]
    cases eX c d with
    | true=>rfl
    | false=>exact tC c n (d+1)


theorem Va (c:gX) (day last t13:Int) (v0 v1 v2 v3 v4 v5:Value) (w W1:World) (S:Nat→Prop) (Q:Exit→Act→World→Prop) (NW : -9000000000000000000≤day) (XG:last≤9000000000000000000)
    (hb:∀ b,S b→b < w.heap.size) (hg:gT w S) (hR:Rd w S (.agg c.cells) (.agg #[v0,v1,v2,v3,v4,v5])) (VA:Below w.heap.size w W1) (WO:Boxed W1 (w.heap.size+1) 3 (.int .i64 0)) (WQ:Boxed W1 (w.heap.size+1+1) 67 (.int .i64 0))
    (tm:Value→Value→Array Value) (htm:tm=fun x y=>#[Value.agg #[v0,v1,v2,v3,v4,v5],Value.int IntKind.i64 day,Value.pointer (some { block:=w.heap.size,off:=0 }),undef,Value.pointer (some { block:=w.heap.size+1,off:=0 }),
          Value.pointer (some { block:=w.heap.size+1+1,off:=0 }),y,Value.int IntKind.i64 day,Value.bool true,Value.bool false,Value.agg #[v0,v1,v2,v3,v4,v5],Value.int IntKind.i64 day,Value.int IntKind.i64 day,Value.int IntKind.i64 t13,Value.int IntKind.i64 last,
          Value.func (Fn.func 232) #[] #[Value.pointer (some { block:=W1.heap.size+1,off:=0 }),Value.pointer (some { block:=W1.heap.size+2,off:=0 }),Value.pointer (some { block:=W1.heap.size,off:=0 })],x,undef])
    (aa7:dP c (last - day+1).toNat day=[]→∀ (D:Nat) (W:World),W1.heap.size+3≤D→Boxed W (w.heap.size+1) 3 (.int .i64 0)→Boxed W (w.heap.size+1+1) 67 (.int .i64 0)→Below w.heap.size w W→W.heap[D]? = some (.deferred (some []))→Q .normal { tmps:=tm undef undef,defers:=[{ target:=.collected D,args:=#[] }] } W)
    (aa8:∀ (x:Int) (D:Nat) (W:World),(dP c (last - day+1).toNat day).head? = some x→W1.heap.size+3≤D→Boxed W (w.heap.size+1) 3 (.int .i64 x)→Boxed W (w.heap.size+1+1) 67 (.int .i64 0)→Below w.heap.size w W→W.heap[D]? = some (.deferred (some []))→Code.ret.wpIn Fence.wide 4 Tryz.prog Q { tmps:=tm undef undef,defers:=[{ target:=.collected D,args:=#[] }] } W) :
    Code.wpIn Fence.wide 4 Tryz.prog
    (Code.rangeFunc (Operand.tmp 15) #[16]
      (Code.region 4
        #[{ dst:=some 6,op:=Op.assign (Operand.tmp 16),type:=3,pos:= "calendar.go:125",after:=#[],
            guard:=none }]
        false)
      (Code.block 1
        ((Code.region 5
              #[{ dst:=some 17,op:=Op.move (Operand.tmp 6),type:=3,pos:= "calendar.go:126",after:=#[],
                  guard:=none },
                { dst:=none,op:=Op.store 3 (Operand.tmp 4) (Operand.tmp 17),type:=0,pos:= "calendar.go:126",
                  after:=#[{ on:=0,ground:=Ground.data },{ on:=0,ground:=Ground.phase }],guard:=none },
                { dst:=none,op:=Op.store 67 (Operand.tmp 5) (Operand.const (Value.int IntKind.i64 0)),type:=0,
                  pos:= "calendar.go:126",
                  after :=
                    #[{ on:=1,ground:=Ground.chain },{ on:=0,ground:=Ground.phase },
                      { on:=1,ground:=Ground.phase }],
                  guard:=none }]
              false).seq
          Code.ret))) Q { tmps:=tm undef undef,defers:=[] }
    (((W1.alloc (Obj.cells #[v0,v1,v2,v3,v4,v5] 159)).alloc (Obj.cells #[Value.int IntKind.i64 day] 3)).alloc
      (Obj.cells #[Value.int IntKind.i64 last] 3)):=by
  obtain ⟨W2,Td⟩:∃ W2,((W1.alloc (Obj.cells #[v0,v1,v2,v3,v4,v5] 159)).alloc (Obj.cells #[Value.int IntKind.i64 day] 3)).alloc (Obj.cells #[Value.int IntKind.i64 last] 3)=W2:=⟨_,rfl⟩
  rw [Td]
  have gS:W2.heap.size=W1.heap.size+3:=by rw [← Td]; simp
  have di:=WO.lt
  have aa9:=WQ.lt
  have YO:Below w.heap.size w W2:=by rw [← Td]; exact ((VA.alloc VA.size _).alloc (by have:=VA.size; simp; omega) _).alloc (by have:=VA.size; simp; omega) _
  have h42:Boxed W2 (w.heap.size+1) 3 (.int .i64 0):=by rw [← Td]; exact ((WO.alloc _).alloc _).alloc _
  have h52:Boxed W2 (w.heap.size+1+1) 67 (.int .i64 0):=by rw [← Td]; exact ((WQ.alloc _).alloc _).alloc _
  have B6:W2.heap[W1.heap.size]? = some (.cells #[v0,v1,v2,v3,v4,v5] 159 (0,0)):=by
    rw [← Td]
    exact ((Below.heap_alloc _ _ _ (by simp; omega)).trans (Below.heap_alloc _ _ _ (by simp))).trans (World.alloc_heap_new W1 _)
  have hf2:Boxed W2 (W1.heap.size+1) 3 (.int .i64 day):=by
    rw [← Td]
    have:=(Boxed.new (W1.alloc (Obj.cells #[v0,v1,v2,v3,v4,v5] 159)) 3 (.int .i64 day)).alloc (Obj.cells #[Value.int IntKind.i64 last] 3)
    simpa using this
  have ZG:Boxed W2 (W1.heap.size+2) 3 (.int .i64 last):=by
    rw [← Td]
    have:=Boxed.new ((W1.alloc (Obj.cells #[v0,v1,v2,v3,v4,v5] 159)).alloc (Obj.cells #[Value.int IntKind.i64 day] 3)) 3 (.int .i64 last)
    simpa using this
  have MM:∀ (x y:List Int→Int→Prop) (s:List Int) (W W':World) (row:Option Nat),(∃ q,x s q∧Boxed W (w.heap.size+1) 3 (.int .i64 q)∧Boxed W (w.heap.size+1+1) 67 (.int .i64 0)∧Below w.heap.size w W)→W.grownBy W' row→(∀ r,row=some r→W2.heap.size≤r∧∃ o:Obj,W.heap[r]? = some o∧o.isCells=false) →
      ∃ q,x s q∧Boxed W' (w.heap.size+1) 3 (.int .i64 q)∧Boxed W' (w.heap.size+1+1) 67 (.int .i64 0)∧Below w.heap.size w W':=by
    rintro x y s W W' row ⟨q,hq,b4,b5,hB⟩ Ml hr
    exact ⟨q,hq,b4.kept Ml (fun e=>by have:=(hr _ e.symm).1; omega),b5.kept Ml (fun e=>by have:=(hr _ e.symm).1; omega),hB.grown Ml hB.size (fun k e=>by have:=(hr k e).1; omega)⟩
  refine wpIn_rangeFunc_ownF (F:=Fence.wide) (n:=4) (P:=Tryz.prog) rfl (by decide) (gf:=232) (lb:=#[.pointer (some ⟨W1.heap.size+1,0,none⟩),.pointer (some ⟨W1.heap.size+2,0,none⟩),.pointer (some ⟨W1.heap.size,0,none⟩)]) (by rw [htm]; rfl) trivial (enters_of Tryz.func232 (by kernel_rfl) rfl)
    (encs:=fun x:Int=>#[.int .i64 x]) (Kp:=Below (W1.heap.size+3)) (S:=fun xs=>xs=dP c (last - day+1).toNat day) (Sp:=fun pre=>pre <+: dP c (last - day+1).toNat day) (N:=(dP c (last - day+1).toNat day).length) (w0:=W2) ?seq belowK_t (belowK_b (by omega)) (Below.refl _ _) (fun _=>rfl)
    (fun pre W=>∃ q,(pre=[]∧q=0)∧Boxed W (w.heap.size+1) 3 (.int .i64 q)∧Boxed W (w.heap.size+1+1) 67 (.int .i64 0)∧Below w.heap.size w W)
    (fun cd pre W=>∃ q,(cd=.ret∧pre=[q])∧Boxed W (w.heap.size+1) 3 (.int .i64 q)∧Boxed W (w.heap.size+1+1) 67 (.int .i64 0)∧Below w.heap.size w W)
    (fun s W W' row=>MM (fun pre q=>pre=[]∧q=0) (fun _ _=>True) s W W' row) (fun cd s W W' row=>MM (fun pre q=>cd=.ret∧pre=[q]) (fun _ _=>True) s W W' row) ⟨0,⟨rfl,rfl⟩,h42,h52,YO⟩
    (fun x=>{ tmps:=tm (.int .i64 x) (.int .i64 x),defers:=[] }) ?assign ?body ?done ?stop
  case seq =>
    intro l J Jx W hW hJ hJx hY h0
    have hBW:Below w.heap.size w W:=YO.trans (hW.mono (by have:=YO.size; omega))
    have cc:∀ j,W.cell? ⟨W1.heap.size,j,none⟩ = #[v0,v1,v2,v3,v4,v5][j]?:=fun j=>by rw [fC W _ j _ _ _ ((hW.block _ (by omega)).trans B6)]
    exact U9 l (W1.heap.size+1) (W1.heap.size+2) W1.heap.size (W1.heap.size+3) W.heap.size c day last v0 v1 v2 v3 v4 v5 S J Jx NW XG (fun b h=>by have:=hb b h; have:=VA.size; omega) (by omega) (by omega) (by omega) hJ hY W (by have:=hW.size; omega)
      (hg.mono (fun _ h=>h) (fun b h=>hBW.block b (hb b h))) (hR.mono (fun _ h=>h) (fun b h=>hBW.block b (hb b h))) ((hW.cell (p:=⟨W1.heap.size+1,0,none⟩) (by simp; omega)).trans hf2.cell) ((hW.cell (p:=⟨W1.heap.size+2,0,none⟩) (by simp; omega)).trans ZG.cell) (cc 0) (cc 1) (cc 2) (cc 3) (cc 4) (cc 5) h0
  case assign =>
    intro l x W K hK
    subst htm
    gi_wp2
    exact hK
  case body =>
    rintro l pre x W ⟨q,⟨rfl,rfl⟩,b4,b5,hB⟩ _
    subst htm
    have c4:=b4.cell
    have f4:=b4.frozen
    have c5:=b5.cell
    have f5:=b5.frozen
    gi_wp2
    have q4:=b4.set (.int .i64 x)
    have q5:=(b5.other (B':=w.heap.size+1) (by omega) (.int .i64 x)).set (.int .i64 0)
    have q4':=q4.other (B':=w.heap.size+1+1) (by omega) (.int .i64 0)
    exact ⟨(KeepsOthers.setCell _ _ _).trans (KeepsOthers.setCell _ _ _),x,⟨rfl,rfl⟩,q4',q5,(hB.setCell (p:=⟨w.heap.size+1,0,none⟩) (by simp) _).setCell (p:=⟨w.heap.size+1+1,0,none⟩) (by simp; omega) _⟩
  case done =>
    rintro D xs W hD hx ⟨q,⟨rfl,rfl⟩,b4,b5,hB⟩ hK
    exact aa7 hx.symm D W (by omega) b4 b5 hB hK
  case stop =>
    rintro D cd pre W hD ⟨t,hp⟩ ⟨q,⟨rfl,rfl⟩,b4,b5,hB⟩ hK
    exact aa8 q D W (by rw [← hp]; rfl) (by omega) b4 b5 hB hK

theorem C6 (c:gX) (day:Int):fA Tryz.prog 193 [av c.cells,iv day] [] (.eD [iv (dh c day).1,iv (dh c day).2]) []:=by
  refine ⟨by kernel_rfl,fun w S μ vs hb hg hr _ _=>?_⟩
  obtain ⟨v0,v1,v2,v3,v4,v5,rfl,hR⟩:∃ v0 v1 v2 v3 v4 v5:Value,vs = #[.agg #[v0,v1,v2,v3,v4,v5],.int .i64 day]∧Rd w S (.agg c.cells) (.agg #[v0,v1,v2,v3,v4,v5]):=by
    obtain ⟨hl,h⟩:=hr fun _=>false
    have h0:=gq.1 (h 0 (by simp))
    have h1:=dj (h 1 (by simp))
    match vs,hl with
    | ⟨[a,b]⟩,_ =>
      simp only [List.getD_cons_zero,List.getD_cons_succ] at h0 h1
      subst h1
      cases h0 with
      | agg _ xs hx hh =>
        match xs,hx with
        | ⟨[x0,x1,x2,x3,x4,x5]⟩,_=>exact ⟨x0,x1,x2,x3,x4,x5,rfl,.agg _ _ rfl hh⟩
  refine callsIn_wide.1 (callsIn_of_wp_marks (n:=4) Tryz.func193 rfl trivial ?_ rfl)
  simp only [Tryz.ntmps193,List.size_toArray,List.length_cons,List.length_nil,Nat.reduceAdd,Nat.reduceSub,Array.replicate_succ,Array.replicate_zero,List.push_toArray,List.append_toArray,List.nil_append,List.cons_append]
  obtain ⟨W0,hW0⟩:∃ W0,((w.alloc (Obj.cells #[v0,v1,v2,v3,v4,v5] 159)).alloc (Obj.cells #[Value.int IntKind.i64 0] 3)).alloc (Obj.cells #[Value.int IntKind.i64 0] 67)=W0:=⟨_,rfl⟩
  have adY:W0.heap.size=w.heap.size+3:=by rw [← hW0]; simp
  have hB0:Below w.heap.size w W0:=by rw [← hW0]; exact (((Below.refl _ w).alloc (Nat.le_refl _) _).alloc (by simp) _).alloc (by simp; omega) _
  have Tt:W0.heap[w.heap.size]? = some (.cells #[v0,v1,v2,v3,v4,v5] 159 (0,0)):=by
    rw [← hW0]
    exact ((Below.heap_alloc _ _ _ (by simp; omega)).trans (Below.heap_alloc _ _ _ (by simp))).trans (World.alloc_heap_new w _)
  have h4:Boxed W0 (w.heap.size+1) 3 (.int .i64 0):=by
    rw [← hW0]
    have:=(Boxed.new (w.alloc (Obj.cells #[v0,v1,v2,v3,v4,v5] 159)) 3 (.int .i64 0)).alloc (Obj.cells #[Value.int IntKind.i64 0] 67)
    simpa using this
  have h5:Boxed W0 (w.heap.size+1+1) 67 (.int .i64 0):=by
    rw [← hW0]
    have:=Boxed.new ((w.alloc (Obj.cells #[v0,v1,v2,v3,v4,v5] 159)).alloc (Obj.cells #[Value.int IntKind.i64 0] 3)) 67 (.int .i64 0)
    simpa using this
  have Uj:=Oj day W0 S (fun b h=>by have:=hb b h; omega) (hg.mono (fun _ h=>h) (fun b h=>hB0.block b (hb b h)))
  gi_wp2
  refine ⟨trivial,(callsIn_wide.2 Uj).mono ?_⟩
  rintro e W1 ⟨rfl,Ml⟩
  have VA:Below w.heap.size w W1:=hB0.trans ⟨Ml.os,Ml.tape,Ml.output,Ml.size,fun k hk=>Ml.block k (by omega) (by simp)⟩
  have R1:W1.heap[w.heap.size]? = some (.cells #[v0,v1,v2,v3,v4,v5] 159 (0,0)):=(Ml.block _ (by omega) (by simp)).trans Tt
  have WO:=h4.kept Ml (by simp)
  have WQ:=h5.kept Ml (by simp)
  have h4c:=WO.cell
  have h4f:=WO.frozen
  have h5c:=WQ.cell
  have h5f:=WQ.frozen
  cases hv:dN day with
  | false =>
    gi_wp2
    have q4:=WO.set (.int .i64 0)
    have q5:=(WQ.other (B':=w.heap.size+1) (by omega) (.int .i64 0)).set (.int .i64 3)
    have q4':=q4.other (B':=w.heap.size+1+1) (by omega) (.int .i64 3)
    refine ⟨_,results193 _ _ _ _ 0 3 rfl rfl q4'.cell q5.cell,?_⟩
    have e:dh c day=(0,3):=by simp [dh,hv]
    rw [e]
    exact C4 hb ((VA.setCell (p:=⟨w.heap.size+1,0,none⟩) (by simp) _).setCell (p:=⟨w.heap.size+1+1,0,none⟩) (by simp; omega) _)
  | true =>
    have e0:W1.cell? ⟨w.heap.size,0,none⟩=some v0:=by rw [fC W1 _ 0 _ _ _ R1]; rfl
    have e1:W1.cell? ⟨w.heap.size,1,none⟩=some v1:=by rw [fC W1 _ 1 _ _ _ R1]; rfl
    have e2:W1.cell? ⟨w.heap.size,2,none⟩=some v2:=by rw [fC W1 _ 2 _ _ _ R1]; rfl
    have e3:W1.cell? ⟨w.heap.size,3,none⟩=some v3:=by rw [fC W1 _ 3 _ _ _ R1]; rfl
    have e4:W1.cell? ⟨w.heap.size,4,none⟩=some v4:=by rw [fC W1 _ 4 _ _ _ R1]; rfl
    have e5:W1.cell? ⟨w.heap.size,5,none⟩=some v5:=by rw [fC W1 _ 5 _ _ _ R1]; rfl
    have NW:0≤day∧day≤100000:=by simpa [dN,gJ] using hv
    have Kt:aq (day+400)=day+400:=aD (by omega) (by omega)
    gi_wp2
    all_goals (refine ⟨trivial,(WN v0 v1 v2 v3 v4 v5 day _ W1).mono ?_⟩; rintro e W2 ⟨rfl,rfl⟩; gi_wp2; refine Va c day _ _ v0 v1 v2 v3 v4 v5 w W1 S _ (by omega) ?_ hb hg hR VA WO WQ _ rfl ?_ ?_)
    all_goals first
      | omega
      | (intro Mq D W hD b4 b5 hB hK
         have c4:=b4.cell
         have f4:=b4.frozen
         have c5:=b5.cell
         have f5:=b5.frozen
         gi_wp2
         have q4:=(b4.set (.int .i64 0)).other (B':=w.heap.size+1+1) (by omega) (.int .i64 3)
         have q5:=(b5.other (B':=w.heap.size+1) (by omega) (.int .i64 0)).set (.int .i64 3)
         have di:=WO.lt
         have aa9:=WQ.lt
         have hK':=((KeepsOthers.setCell W ⟨w.heap.size+1,0,none⟩ (.int .i64 0)).trans (KeepsOthers.setCell _ ⟨w.heap.size+1+1,0,none⟩ (.int .i64 3))).same D _ hK rfl
         have hB':=(hB.setCell (p:=⟨w.heap.size+1,0,none⟩) (by simp) (.int .i64 0)).setCell (p:=⟨w.heap.size+1+1,0,none⟩) (by simp; omega) (.int .i64 3)
         refine ⟨by simp,.inl ⟨_,_,rfl,run_takeDeferred hK',?_⟩⟩
         refine ⟨_,results193 _ _ _ _ 0 3 rfl rfl (q4.kept (grownBy_putObj' _ D _) (fun e=>by cases e; omega)).cell (q5.kept (grownBy_putObj' _ D _) (fun e=>by cases e; omega)).cell,?_⟩
         have e:dh c day=(0,3):=by
           simp only [dh,hv,yC,← tC]
           first
             | (rw [show min (aq (day+400)) 100000=100000 from by rw [Kt]; omega,Mq]; rfl)
             | (rw [show min (aq (day+400)) 100000=day+400 from by rw [Kt]; omega,Mq]; rfl)
             | (rw [Kt,Mq]; rfl)
             | (rw [Mq]; rfl)
         rw [e]
         exact C4 hb (hB'.grown (grownBy_putObj' _ D _) hB'.size (fun k e=>by cases e; have:=VA.size; omega)))
      | (intro x D W hx hD b4 b5 hB hK
         gi_wp2
         have di:=WO.lt
         have aa9:=WQ.lt
         refine ⟨by simp,.inl ⟨_,_,rfl,run_takeDeferred hK,?_⟩⟩
         refine ⟨_,results193 _ _ _ _ x 0 rfl rfl (b4.kept (grownBy_putObj' _ D _) (fun e=>by cases e; omega)).cell (b5.kept (grownBy_putObj' _ D _) (fun e=>by cases e; omega)).cell,?_⟩
         have e:dh c day=(x,0):=by
           simp only [dh,hv,yC,← tC]
           first
             | (rw [show min (aq (day+400)) 100000=100000 from by rw [Kt]; omega,hx]; rfl)
             | (rw [show min (aq (day+400)) 100000=day+400 from by rw [Kt]; omega,hx]; rfl)
             | (rw [Kt,hx]; rfl)
             | (rw [hx]; rfl)
         rw [e]
         exact C4 hb (hB.grown (grownBy_putObj' _ D _) hB.size (fun k e=>by cases e; have:=VA.size; omega)))
theorem DM (c:gX):∀ (n:Nat) (d x:Int),rS c n d=some x→d≤x∧x < d+n
  | 0,_,_,h=>by simp [rS] at h
  | n+1,d,x,h=>by
    simp only [rS] at h
    cases ho:eX c d with
    | true=>rw [ho] at h; simp only [cond_true,Option.some.injEq] at h; omega
    | false=>rw [ho] at h; have:=DM c n (d+1) x h; omega
theorem Aj (c:gX) (day:Int):(fun (x:Int × Int)=>x.2=0→day≤x.1∧x.1≤100000) (dh c day):=by
  dsimp only
  unfold dh
  cases hv:dN day with
  | false=>intro h; exact absurd (show (3:Int)=0 from h) (by decide)
  | true =>
    simp only [Bool.not_true,cond_false]
    cases hd:yC c day (min (aq (day+400)) 100000) with
    | none=>intro h; exact absurd (show (3:Int)=0 from h) (by decide)
    | some d =>
      intro _
      have:=DM c _ _ _ hd
      simp only
      omega
def jz (c:gX) (day:Int):gV (Int × Int):=⟨Tryz.prog,193,[av c.cells,iv day],fun x=>.eD [iv x.1,iv x.2],true,dh c day,True,fun _=>C6 c day,fun x=>x.2=0→day≤x.1∧x.1≤100000,Aj c day⟩
end
section
open Go Go.Av
def gA (r:ai) (bQ:Int) (day:Int):Sk (Int × Int) :=
 .r 1 ((ck r bQ).c) fun x1 =>
 .loop (default:Int × Int) (fun i2=>(0:Int)≤i2∧i2≤100001) (fun i2=>(100001 - i2).toNat) (day:Int)
 (fun (i2:Int)=>⟨[(2,iv i2)],[]⟩) fun i2 =>
 .r 2 ((vA r x1 i2).c) fun x3 =>
 .r 3 (.al (.p (bA bQ r.aK.length)) ((jz (r.aK.getD bQ.toNat default) x3).c)) fun x4 =>
 .br (x4.2 != 0)
 (.fin (.inl (0,3)))
 (.br (x4.1 == x3)
 (.fin (.inl (x3,0)))
 (.fin (.inr x4.1)))
def BJ r bQ day:=(gA r bQ day).val
theorem C7 (r:ai) (bQ:Int) (day:Int) (hP:(0≤bQ∧bQ < (r.aK.length:Int))∧(0≤day∧day≤100001)∧r.c6):(gA r bQ day).cC (fun (x:Int × Int)=>x.2=0→0≤x.1∧x.1≤100001):=by
 refine Sk.aX _ ?_
 unfold gA
 simp only [Sk.cx,Sk.aI,reduceCtorEq,ON,kk,kp,jz,ck,vA,ai.c6,maxLen]
 obtain ⟨hc,hd,hh⟩:=hP
 intro _ _
 refine ⟨hd,fun i hi y hy hyp x hx hxp=>⟨fun _ h=>absurd h (by decide),fun he=>⟨fun hq=>?_,fun hq=>⟨?_,?_⟩⟩⟩⟩
 all_goals have h2:=hyp ⟨hh,hi⟩
 all_goals simp only [LN] at he hq
 all_goals have h3:=hxp he
 all_goals omega
theorem BK (r:ai) (bQ:Int) (day:Int):(fun (x:Int × Int)=>((0≤bQ∧bQ < (r.aK.length:Int))∧(0≤day∧day≤100001)∧r.c6)→(x.2=0→0≤x.1∧x.1≤100001)) (BJ r bQ day):=fun hP=>Sk.cZ _ (C7 r bQ day hP)
theorem EG (r:ai) (bQ:Int) (day:Int) (hc:0≤bQ∧bQ < (r.aK.length:Int)) (hd:0≤day∧day≤100001) (hh:r.c6):(gA r bQ day).aZ (fun _=>True):=by
 simp only [ai.c6] at hh
 unfold gA
 try simp only [jz,ck,vA,ai.c6]
 exact mu
def rT r bQ day:=kk tok mixed Tryz.func142 [av r.cells,iv bQ,iv day] (fun x=>.eD [iv x.1,iv x.2]) true (gA r bQ day) (BJ r bQ day) (u3 (EG r bQ day)) (fun (x:Int × Int)=>((0≤bQ∧bQ < (r.aK.length:Int))∧(0≤day∧day≤100001)∧r.c6)→(x.2=0→0≤x.1∧x.1≤100001)) (BK r bQ day)
def nA (r:ai) (b:og) (seen:Int) (pN:Int):Sk (Int × Int) :=
 .r 2 (.dep ((tA r).c) fun x1=>.dep (.wh (x1 != 0) false ((nr r b.bQ).c)) fun x2=>.dep (.wh ((x1 != 0)||(!x2)) false ((nr r b.B8).c)) fun x3=>.wh (((x1 != 0)||(!x2))||(!x3)) false ((lG b.day).c)) fun PV =>
 .br ((((PV.1 != 0)||(!PV.2.1))||(!PV.2.2.1))||(!PV.2.2.2))
 (.fin (0,1))
 (.br ((((decide (b.cU.kind < 0))||(decide (b.cU.kind≥5)))||(decide (b.cU.unit < 0)))||(decide (b.cU.unit≥2)))
 (.fin (0,1))
 (.r 6 (.wh (seen != (-1)) true ((lG seen).c)) fun x5 =>
 .br ((((seen != (-1))&&(!x5))||(decide (pN < 0)))||(decide (pN > 20000)))
 (.fin (0,1))
 (.r 8 ((rR b.cU).c) fun x6 =>
 .br (x6&&(seen == (-1)))
 (.fin (0,4))
 (.r 10 ((vz r b seen).c) fun x7 =>
 .br (x7.2 != 0)
 (.fin (0,x7.2))
 (.r 13 ((lG x7.1).c) fun x8 =>
 .br ((!x8)||(decide ((aq (x7.1+pN)) > 100000)))
 (.fin (0,3))
 (.r 15 ((rT r b.B8 (aq (x7.1+pN))).c) fun x9 =>
 .fin (x9.1,x9.2)))))))
def SO r b seen pN:=(nA r b seen pN).val
theorem I7 (r:ai) (b:og) (seen:Int) (pN:Int):(nA r b seen pN).cC (fun (x:Int × Int)=>x.2=0→0≤x.1∧x.1≤100001):=by
 refine Sk.aX _ ?_
 unfold nA
 simp only [Sk.cx,Sk.aI,reduceCtorEq,ON,kk,kp,tA,rR,vz,nr,lG,rT,wj,wg,xO,forall_eq,ar.Small,ai.Small,ai.c6,maxLen]
 intro hr
 refine ⟨fun _ h=>absurd h (by decide),fun h1=>⟨fun _ h=>absurd h (by decide),fun _=>⟨fun _ h=>absurd h (by decide),fun h3=>⟨fun _ h=>absurd h (by decide),fun _=>⟨fun h h'=>by rw [h'] at h; exact absurd h (by decide),fun h4=>⟨fun _ h=>absurd h (by decide),fun h5 himp=>?_⟩⟩⟩⟩⟩⟩
 simp only [LN] at h1 h5
 have e:∀ x g:Int,0≤x∧x≤100000→0≤g∧g≤20000→0≤aq (x+g):=fun x g h1 h2=>by rw [aD (by omega) (by omega)]; omega
 have h6:0≤pN∧pN≤20000:=by simp only [LN] at h3; omega
 refine himp ⟨by omega,⟨e _ _ h5.1 h6,by omega⟩,hr h1.1.1.1⟩
theorem LR (r:ai) (b:og) (seen:Int) (pN:Int) (bh:r.Small):(nA r b seen pN).aZ (fun _=>True):=by
 simp only [ar.Small,ai.Small,ai.c6] at bh
 unfold nA
 try simp only [tA,rR,vz,nr,lG,rT,wj,wg,xO,ar.Small,ai.Small,ai.c6]
 exact wx
def DN r b seen pN:=kp tok mixed Tryz.func100 [av r.cells,av b.cells,iv seen,iv pN] (fun x=>.eD [iv x.1,iv x.2]) true (SO r b seen pN) (LR r b seen pN) (I7 r b seen pN)
def lY (r:ai) (forum:Int) (f:ar) (day:Int):Sk (Int) :=
 .r 1 ((bT f day).c) fun x1 =>
 .br (((x1.ah.length:Nat):Int) == 0)
 (.fin (-1))
 (.r 4 (.dep ((mf r forum 6 x1 day).c) fun x2=>(nj x2).c) fun p7 =>
 .r 5 (.dep ((o9 x1).c) fun x4=>(DN r x1.aH x4 (bL p7.2 0)).c) fun p6 =>
 .br (p6.2.2 != 0)
 (.fin (-1))
 (.fin p6.2.1))
def nB r forum f day:=(lY r forum f day).val
theorem EH (r:ai) (forum:Int) (f:ar) (day:Int) (bm:f.Small) (bM:r.ca) (bh:r.Small):(lY r forum f day).aZ (fun _=>True):=by
 simp only [ar.Small,ai.Small,ai.ca] at bm
 simp only [ar.Small,ai.Small,ai.ca] at bM
 simp only [ar.Small,ai.Small,ai.ca] at bh
 unfold lY
 try simp only [mf,nj,bT,o9,DN,ar.Small,ai.Small,ai.ca]
 exact mu
def cy r forum f day:=kk tok mixed Tryz.func53 [av r.cells,iv forum,av f.cells,iv day] (fun x=>iv x) true (lY r forum f day) (nB r forum f day) (u3 (EH r forum f day))
def rU (r:ai) (forum:Int) (f:ar) (day:Int):Sk (fD × Bool) :=
 .br ((decide (forum < 0))||(decide (forum≥((r.aC.length:Nat):Int))))
 (.fin (({ view:=({ all:=({ aH:=({ zW:=0,rB:=0,bO:=0,sum:=0,aE:=0,cU:=({ kind:=0,n:=0,unit:=0 }:pD),day:=0,bQ:=0,B8:=0,need:=0,mW:=0,flags:=0,parts:=0 }:og),ah:=[],aO:=[],au:=[],facts:=[] }:ar),now:=({ aH:=({ zW:=0,rB:=0,bO:=0,sum:=0,aE:=0,cU:=({ kind:=0,n:=0,unit:=0 }:pD),day:=0,bQ:=0,B8:=0,need:=0,mW:=0,flags:=0,parts:=0 }:og),ah:=[],aO:=[],au:=[],facts:=[] }:ar),day:=0,lead:=[] }:View),r:=({ bN:=[],aK:=[],eH:=[],aQ:=[],aC:=[],aJ:=[],bn:=[],dp:=[] }:ai),forum:=0,due:=0 }:fD),false))
 (.r 3 (.dep ((z7 f day).c) fun _=>(cy r forum f day).c) fun p3 =>
 .fin (({ view:=p3.1,r:=r,forum:=forum,due:=p3.2 }:fD),true))
def aV r forum f day:=(rU r forum f day).val
theorem DP (r:ai) (forum:Int) (f:ar) (day:Int):(rU r forum f day).cC (fun (x:fD × Bool)=>x.2=true→x.1=⟨bU f day,r,forum,nB r forum f day⟩∧0≤forum∧forum < (r.aC.length:Int)):=by
 unfold rU
 try simp only [cy,z7,ar.Small,ai.Small,ai.ca]
 exact B7
theorem vB (r:ai) (forum:Int) (f:ar) (day:Int):(fun (x:fD × Bool)=>x.2=true→x.1=⟨bU f day,r,forum,nB r forum f day⟩∧0≤forum∧forum < (r.aC.length:Int)) (aV r forum f day):=have h:=Sk.cZ _ (DP r forum f day); h
theorem Qn (r:ai) (forum:Int) (f:ar) (day:Int) (bm:f.Small) (bM:r.ca) (bh:r.Small):(rU r forum f day).aZ (fun _=>True):=by
 simp only [ar.Small,ai.Small,ai.ca] at bm
 simp only [ar.Small,ai.Small,ai.ca] at bM
 simp only [ar.Small,ai.Small,ai.ca] at bh
 unfold rU
 try simp only [cy,z7,ar.Small,ai.Small,ai.ca]
 exact mu
def C8 r forum f day:=kp tok mixed Tryz.func23 [av r.cells,iv forum,av f.cells,iv day] (fun x=>.eD [av x.1.cells,bv x.2]) false (aV r forum f day) (u3 (Qn r forum f day)) (DP r forum f day)
structure cI where
 sign:Int
 kind:Int
 jq:Int
 binds:Int
 text:Int
 sum:Int
 nC:Bool
 deriving Inhabited
def cI.cells (c:cI):List D:=[dI c.sign,dI c.kind,dI c.jq,dI c.binds,dI c.text,dI c.sum,dB c.nC]
def cI.E:Mi cI:=⟨cI.cells,7,fun _=>rfl,fun _=>rfl⟩
structure rV where
 r:ai
 forum:Int
 day:Int
 f:ar
 form:Int
 due:Int
 deriving Inhabited
def rV.cells (c:rV):List D:=c.r.cells++[dI c.forum,dI c.day]++c.f.cells++[dI c.form,dI c.due]
def vC (s:tn):Sk (Int) :=
 .br (s.err != 0)
 (.fin 0)
 (.br (!s.cell.known)
 (.fin 2)
 (.br (s.cell.n != 0)
 (.fin 1)
 (.fin 0)))
def WR s:=(vC s).val
theorem Qo (s:tn):(vC s).aZ (fun _=>True):=by
 unfold vC
 exact mO
def fk s:=kk tok mixed Tryz.func70 [av s.cells] (fun x=>iv x) true (vC s) (WR s) (u0 (Qo s))
def nE (r:ai) (forum:Int) (f:ar) (day:Int):Sk (rV) :=
 .r 1 ((bT f day).c) fun x1 =>
 .r 2 (.dep ((mf r forum 0 x1 day).c) fun x2=>.dep ((fk x2).c) fun _=>(cy r forum x1 day).c) fun p5 =>
 .fin ({ r:=r,forum:=forum,day:=day,f:=x1,form:=p5.2.1,due:=p5.2.2 }:rV)
def SP r forum f day:=(nE r forum f day).val
theorem I8 (r:ai) (forum:Int) (f:ar) (day:Int):(nE r forum f day).cC (fun (x:rV)=>x.f=aB f day∧x.r=r):=by
 unfold nE
 try simp only [mf,cy,fk,bT,ar.Small,ai.Small,ai.ca]
 exact B7
theorem LS (r:ai) (forum:Int) (f:ar) (day:Int) (bm:f.Small) (bM:r.ca) (bh:r.Small):(nE r forum f day).aZ (fun _=>True):=by
 simp only [ar.Small,ai.Small,ai.ca] at bm
 simp only [ar.Small,ai.Small,ai.ca] at bM
 simp only [ar.Small,ai.Small,ai.ca] at bh
 unfold nE
 try simp only [mf,cy,fk,bT,ar.Small,ai.Small,ai.ca]
 exact mu
def mH r forum f day:=kp tok mixed Tryz.func54 [av r.cells,iv forum,av f.cells,iv day] (fun x=>av x.cells) false (SP r forum f day) (u3 (LS r forum f day)) (I8 r forum f day)
def lZ (f:ar) (day:Int):Sk ((List (Int × Bool))) :=
 .r 1 (.o [.pq (mkM dB)]) fun _ =>
 .bt
 (.loop (default:Sum ((List (Int × Bool))) ((List (Int × Bool)))) (fun i2=>i2.1≤f.au.length) (fun i2=>f.au.length - i2.1) ((0,([]:List (Int × Bool))):Nat × (List (Int × Bool)))
 (fun (i2:Nat × (List (Int × Bool)))=>⟨[(12,iv (i2.1:Int))],[(8,ZJ dB i2.2)]⟩) fun i2 =>
 .lt 10 0 i2.1 f.au.length
 (.r 4 (.p (bA (i2.1:Int) f.au.length)) fun _ =>
 .br ((((f.au.getD i2.1 default).kind) == 7)&&(decide (((f.au.getD i2.1 default).day)≤day)))
 (.r 6 (.al (.t (A8 dB i2.2)) (.o [.pq (Wm dB i2.2 ((f.au.getD i2.1 default).at_) true)])) fun _ =>
 .r 7 .z fun _ =>
 .wi 12 (aq ((i2.1:Int)+1)) ((i2.1+1:Nat):Int) <|
 .fin (.inr (i2.1+1,mL i2.2 ((f.au.getD i2.1 default).at_) true)))
 (.nx 7 12 i2.1 (i2.1+1,i2.2)))
 (.fin (.inl (.inr i2.2))))
 (fun (b1:(List (Int × Bool)))=>⟨[],[(8,ZJ dB b1)]⟩) fun b1 =>
 .fin b1
def dQ f day:=(lZ f day).val
theorem EI (f:ar) (day:Int):(lZ f day).aZ (fun _=>True):=by
 unfold lZ
 exact mu
def nF f day:=kk tok mixed Tryz.func144 [av f.cells,iv day] (fun x=>pmM dB x) false (lZ f day) (dQ f day) (u0 (EI f day))
def l4 (f:ar) (sign:Int) (day:Int):Sk (Bool) :=
 .r 1 (.mM (.wh ((decide (sign≥0))&&(decide (sign < ((f.ah.length:Nat):Int)))) true ((nF f day).c)) fun x1=>.wh ((decide (sign≥0))&&(decide (sign < ((f.ah.length:Nat):Int)))) true (.al (.t (A8 dB x1)) (.o [.cast 21 (getM dB x1 sign false)]))) fun x1 =>
 .fin (((decide (sign≥0))&&(decide (sign < ((f.ah.length:Nat):Int))))&&(gp x1 sign false))
def LU f sign day:=(l4 f sign day).val
theorem EJ (f:ar) (sign:Int) (day:Int):(l4 f sign day).aZ (fun _=>True):=by
 unfold l4
 try simp only [nF]
 exact mO
def rW f sign day:=kk tok mixed Tryz.func102 [av f.cells,iv sign,iv day] (fun x=>bv x) true (l4 f sign day) (LU f sign day) (u0 (EJ f sign day))
def j9 (v:rV) (aN:Int) (sign:Int):Sk (Int) :=
 .r 2 (.dep ((gz v.r v.forum aN ({ file:=v.f,sign:=sign,gZ:=sign,im:=(-1),due:=v.due,day:=v.day }:fj)).c) fun x1=>(fk x1).c) fun p3 =>
 .fin p3.2
def Hl v aN sign:=(j9 v aN sign).val
theorem BL (v:rV) (aN:Int) (sign:Int) (fO:v.f.Small) (ku:v.r.ca) (jc:v.r.Small):(j9 v aN sign).aZ (fun _=>True):=by
 unfold j9
 try simp only [gz,fk]
 exact mu
def eM v aN sign:=kk tok mixed Tryz.func104 [av v.cells,iv aN,iv sign] (fun x=>iv x) true (j9 v aN sign) (Hl v aN sign) (u3 (BL v aN sign))
def iO (f:ar) (i:Int):Sk (Int) :=
 .bind true (fun b1=>f.mX→0≤b1∧b1≤1099511627776)
 (.loop (default:Sum (Int) (Int)) (fun i2=>i2.2≤f.aO.length∧(f.mX→0≤i2.1∧i2.1≤1099511627776)) (fun i2=>f.aO.length - i2.2) ((f.aH.sum,0):Int × Nat)
 (fun (i2:Int × Nat)=>⟨[(5,iv i2.1),(14,iv (i2.2:Int))],[]⟩) fun i2 =>
 .lt 12 0 i2.2 f.aO.length
 (.r 4 (.p (bA (i2.2:Int) f.aO.length)) fun _ =>
 .br (decide (((f.aO.getD i2.2 default).at_)≤i))
 (.nx 7 14 i2.2 ((f.aO.getD i2.2 default).sum,i2.2+1))
 (.nx 7 14 i2.2 (i2.1,i2.2+1)))
 (.fin (.inl (.inr i2.1))))
 (fun (b1:Int)=>⟨[(5,iv b1)],[]⟩) fun b1 =>
 .fin b1
def DQ f i:=(iO f i).val
theorem EK (f:ar) (i:Int) (hP:f.mX):(iO f i).cC (fun (x:Int)=>0≤x∧x≤1099511627776):=by
 refine Sk.aX _ ?_
 unfold iO
 simp only [Sk.cx,Sk.aI,reduceCtorEq,ON,kk,kp,maxLen]
 refine ⟨⟨⟨Nat.zero_le _,fun h=>h.1⟩,fun i hi=>⟨fun hc _=>?_,fun _=>hi.2⟩⟩,fun b hb=>hb hP⟩
 simp only [LN] at hc
 exact ⟨fun _ _=>⟨⟨by omega,fun h=>h.2.1 _ (by omega)⟩,by omega⟩,fun _ _=>⟨⟨by omega,hi.2⟩,by omega⟩⟩
theorem C9 (f:ar) (i:Int):(fun (x:Int)=>(f.mX)→(0≤x∧x≤1099511627776)) (DQ f i):=fun hP=>Sk.cZ _ (EK f i hP)
theorem Hm (f:ar) (i:Int):(iO f i).aZ (fun _=>True):=by
 refine Sk.aU _ ?_
 unfold iO
 simp only [Sk.jb,Sk.aI,reduceCtorEq,ON,kk,kp,maxLen]
 refine ⟨⟨Nat.zero_le _,fun h=>h.1⟩,fun i hi hm=>⟨fun hc=>?_,fun _=>hi.2⟩⟩
 simp only [LN] at hc
 have hw:aq ((i.2:Int)+1)=((i.2+1:Nat):Int):=(aD (by omega) (by omega)).trans (by omega)
 exact ⟨by omega,fun _=>⟨fun _ _=>⟨hw,⟨by omega,fun h=>h.2.1 _ (by omega)⟩,by omega⟩,fun _ _=>⟨hw,⟨by omega,hi.2⟩,by omega⟩⟩⟩
def tD f i:=kk tok mixed Tryz.func145 [av f.cells,iv i] (fun x=>iv x) true (iO f i) (DQ f i) (u0 (Hm f i)) (fun (x:Int)=>(f.mX)→(0≤x∧x≤1099511627776)) (C9 f i)
def fo (v:rV) (sign:Int):Sk (Int × Int) :=
 .r 1 ((tD v.f sign).c) fun x1 =>
 .bind true (fun b2=>b2=true→v.f.aO.length≠0)
 (.loop (default:Sum (Int × Int) (Bool)) (fun i3=>i3.2≤v.f.aO.length∧(i3.1=true→v.f.aO.length≠0)) (fun i3=>v.f.aO.length - i3.2) ((false,0):Bool × Nat)
 (fun (i3:Bool × Nat)=>⟨[(7,bv i3.1),(23,iv (i3.2:Int))],[]⟩) fun i3 =>
 .lt 21 0 i3.2 v.f.aO.length
 (.r 6 (.p (bA (i3.2:Int) v.f.aO.length)) fun _ =>
 .r 8 .z fun _ =>
 .wi 23 (aq ((i3.2:Int)+1)) ((i3.2+1:Nat):Int) <|
 .fin (.inr (i3.1||(decide (((v.f.aO.getD i3.2 default).at_) > sign)),i3.2+1)))
 (.fin (.inl (.inr i3.1))))
 (fun (b2:Bool)=>⟨[(7,bv b2)],[]⟩) fun b2 =>
 .br (!b2)
 (.fin (0,x1))
 (.r 11 (.p (bA (aq (((v.f.aO.length:Nat):Int) - 1)) v.f.aO.length)) fun _ =>
 .r 12 ((eM v 4 sign).c) fun x4 =>
 .br (x4 == 1)
 (.fin (x4,(v.f.aO.getD ((aq (((v.f.aO.length:Nat):Int) - 1)).toNat) default).sum))
 (.br (x4 == 2)
 (.fin (x4,ch x1 ((v.f.aO.getD ((aq (((v.f.aO.length:Nat):Int) - 1)).toNat) default).sum)))
 (.fin (x4,x1))))
def xR v sign:=(fo v sign).val
theorem Ak (v:rV) (sign:Int) (hP:v.f.mX∧v.f.Small):(fo v sign).cC (fun (x:Int × Int)=>0≤x.2∧x.2≤1099511627776):=by
 refine Sk.aX _ ?_
 unfold fo
 simp only [Sk.cx,Sk.aI,reduceCtorEq,ON,kk,kp,eM,tD,maxLen]
 intro x _ hx
 have hx:=hx hP.1
 refine ⟨⟨Nat.zero_le _,fun i hi=>⟨fun hc _ _=>?_,fun _=>hi.2⟩⟩,fun b hb=>⟨fun _=>hx,fun wI _ y _=>?_⟩⟩
 ·simp only [LN] at hc
  exact ⟨⟨by omega,fun _=>by omega⟩,by omega⟩
 ·have hn:=hb (by simpa using wI)
  have hl:=hP.2.2.1
  rw [aD (by omega) (by omega)]
  obtain ⟨h1,h2⟩:=hP.1.2.1 ((v.f.aO.length:Int) - 1).toNat (by omega)
  refine ⟨fun _=>⟨h1,h2⟩,fun _=>⟨fun _=>?_,fun _=>hx⟩⟩
  unfold ch
  split <;> omega
theorem yU (v:rV) (sign:Int):(fun (x:Int × Int)=>(v.f.mX∧v.f.Small)→(0≤x.2∧x.2≤1099511627776)) (xR v sign):=fun hP=>Sk.cZ _ (Ak v sign hP)
theorem BM (v:rV) (sign:Int) (fO:v.f.Small) (ku:v.r.ca) (jc:v.r.Small):(fo v sign).aZ (fun _=>True):=by
 refine Sk.aU _ ?_
 unfold fo
 simp only [Sk.jb,Sk.aI,reduceCtorEq,ON,kk,kp,eM,tD,maxLen]
 intro x _ _
 refine ⟨⟨Nat.zero_le _,fun i hi hm=>⟨fun hc=>?_,fun _=>hi.2⟩⟩,fun b hb wI=>?_⟩
 ·simp only [LN] at hc
  exact ⟨by omega,fun _ _=>⟨(aD (by omega) (by omega)).trans (by omega),⟨by omega,fun _=>by omega⟩,by omega⟩⟩
 ·have hn:=hb (by simpa using wI)
  have hl:=fO.2.1
  rw [aD (by omega) (by omega)]
  exact ⟨by omega,fun _=>⟨fO,ku,jc⟩⟩
def oE v sign:=kk tok mixed Tryz.func105 [av v.cells,iv sign] (fun x=>.eD [iv x.1,iv x.2]) true (fo v sign) (xR v sign) (u3 (BM v sign)) (fun (x:Int × Int)=>(v.f.mX∧v.f.Small)→(0≤x.2∧x.2≤1099511627776)) (yU v sign)
def dZ (v:rV) (sign:Int):Sk (cI) :=
 .r 1 (.p (bA sign v.f.ah.length)) fun _ =>
 .r 3 ((rW v.f sign v.day).c) fun x1 =>
 .bind false (fun _=>True)
 (.br (!x1)
 (.r 4 (.dep ((eM v 1 sign).c) fun x3=>.dep ((eM v 2 sign).c) fun x4=>.al (.o [.fc (fQ dr [v.form,x3,x4])]) ((pF [v.form,x3,x4]).c)) fun p6 =>
 .fin (.inr p6.2.2))
 (.fin (.inr 0)))
 (fun (b2:Int)=>⟨[],[(6,.box [iv sign,iv ((v.f.ah.getD sign.toNat default).kind),iv ((v.f.ah.getD sign.toNat default).dY),iv b2,iv 0,iv 0,bv ((((v.f.ah.getD sign.toNat default).kind) != 1)&&((dc .i64 ((v.f.ah.getD sign.toNat default).flags) 1) == 0))])]⟩) fun b2 =>
 .r 5 ((oE v sign).c) fun x7 =>
 .br ((((v.f.ah.getD sign.toNat default).kind) == 1)||(((v.f.ah.getD sign.toNat default).kind) == 4))
 (.fin ({ sign:=sign,kind:=(v.f.ah.getD sign.toNat default).kind,jq:=(v.f.ah.getD sign.toNat default).dY,binds:=b2,text:=x7.1,sum:=ch x7.2 ((v.f.ah.getD sign.toNat default).sum),nC:=(((v.f.ah.getD sign.toNat default).kind) != 1)&&((dc .i64 ((v.f.ah.getD sign.toNat default).flags) 1) == 0) }:cI))
 (.fin ({ sign:=sign,kind:=(v.f.ah.getD sign.toNat default).kind,jq:=(v.f.ah.getD sign.toNat default).dY,binds:=b2,text:=x7.1,sum:=x7.2,nC:=(((v.f.ah.getD sign.toNat default).kind) != 1)&&((dc .i64 ((v.f.ah.getD sign.toNat default).flags) 1) == 0) }:cI))
def uB v sign:=(dZ v sign).val
theorem xS (v:rV) (sign:Int) (hP:v.f.mX∧v.f.Small∧0≤sign∧sign < (v.f.ah.length:Int)):(dZ v sign).cC (fun (x:cI)=>0≤x.sum∧x.sum≤1099511627776):=by
 refine Sk.aX _ ?_
 unfold dZ
 simp only [Sk.cx,Sk.aI,reduceCtorEq,ON,kk,kp,pF,eM,oE,rW,maxLen]
 intro _ x _ b _ y _ hy
 have hy:=hy ⟨hP.1,hP.2.1⟩
 obtain ⟨h1,h2⟩:=hP.1.2.2.1 sign.toNat (by omega)
 exact ⟨fun _=>by unfold ch; split <;> omega,fun _=>hy⟩
theorem wB (v:rV) (sign:Int):(fun (x:cI)=>(v.f.mX∧v.f.Small∧0≤sign∧sign < (v.f.ah.length:Int))→(0≤x.sum∧x.sum≤1099511627776)) (uB v sign):=fun hP=>Sk.cZ _ (xS v sign hP)
theorem yV (v:rV) (sign:Int) (hs:0≤sign∧sign < (v.f.ah.length:Int)) (fO:v.f.Small) (ku:v.r.ca) (jc:v.r.Small):(dZ v sign).aZ (fun _=>True):=by
 unfold dZ
 try simp only [pF,eM,oE,rW]
 exact mu
def eO v sign:=kk tok mixed Tryz.func55 [av v.cells,iv sign] (fun x=>av x.cells) true (dZ v sign) (uB v sign) (u4 (yV v sign)) (fun (x:cI)=>(v.f.mX∧v.f.Small∧0≤sign∧sign < (v.f.ah.length:Int))→(0≤x.sum∧x.sum≤1099511627776)) (wB v sign)
def jA (r:ai) (forum:Int) (f:ar) (day:Int):Sk ((List cI)) :=
 .r 1 ((mH r forum f day).c) fun x1 =>
 .bind true (fun b2=>b2.length=x1.f.ah.length)
 (.loop (default:Sum ((List cI)) ((List cI))) (fun i3=>i3.2≤x1.f.ah.length∧i3.1.length=i3.2) (fun i3=>x1.f.ah.length - i3.2) (([],0):(List cI) × Nat)
 (fun (i3:(List cI) × Nat)=>⟨[(10,ow 100002 i3.1),(21,iv (i3.2:Int))],[(100002,bg 131 7 cI.cells i3.1)]⟩) fun i3 =>
 .lt 9 25 i3.2 x1.f.ah.length
 (.r 6 (.mM ((eO x1 (i3.2:Int)).c) fun x4=>.al (.o [.fc (fQ cI.E [x4])]) (.al (.o [.fc (mV cI.E i3.1 [x4])]) (.al (.t (cI.E.pB [x4])) (.p (yw i3.1.length [x4].length 56))))) fun x4 =>
 .nx 7 21 i3.2 (i3.1++[x4],i3.2+1))
 (.fin (.inl (.inr i3.1))))
 (fun (b2:(List cI))=>⟨[(10,ow 100001 b2)],[(100001,bg 131 7 cI.cells b2)]⟩) fun b2 =>
 .fin b2
def cS r forum f day:=(jA r forum f day).val
theorem Da (r:ai) (forum:Int) (f:ar) (day:Int):(jA r forum f day).cC (fun (x:(List cI))=>x.length=(aB f day).ah.length):=by
 unfold jA
 try simp only [mH,eO]
 exact B7
theorem EL (r:ai) (forum:Int) (f:ar) (day:Int) (bm:f.Small) (bM:r.ca) (bh:r.Small):(jA r forum f day).aZ (fun _=>True):=by
 refine Sk.aU _ ?_
 unfold jA
 simp only [Sk.jb,Sk.aI,reduceCtorEq,ON,kk,kp,mH,eO,maxLen]
 refine ⟨⟨bm,bM,bh⟩,fun x _ hx=>?_⟩
 have hS:x.f.Small:=by rw [hx.1]; exact xA bm day
 have hB:x.r.ca:=by rw [hx.2]; exact bM
 have hR:x.r.Small:=by rw [hx.2]; exact bh
 have hS1:=hS.1
 all_goals exact okT
def rX r forum f day:=kp tok mixed Tryz.func24 [av r.cells,iv forum,av f.cells,iv day] (fun x=>lv cI.cells x) false (cS r forum f day) (u3 (EL r forum f day)) (Da r forum f day)
structure Ku where
 ah:List Int
 gZ:Int
 broken:Int
 Qp:Bool
 Vb:Int
 late:List Int
 deriving Inhabited
def Ku.cells (c:Ku):List D:=[lf bF c.ah,dI c.gZ,dI c.broken,dB c.Qp,dI c.Vb,lf bF c.late]
def gL (f:ar) (day:Int):Sk (Int × Bool) :=
 .bt
 (.loop (default:Sum (Int × Bool) (Int × Bool)) (fun i2=>i2.2.2≤f.au.length) (fun i2=>f.au.length - i2.2.2) ((0,false,0):Int × Bool × Nat)
 (fun (i2:Int × Bool × Nat)=>⟨[(6,iv i2.1),(7,bv i2.2.1),(13,iv (i2.2.2:Int))],[]⟩) fun i2 =>
 .lt 11 0 i2.2.2 f.au.length
 (.r 4 (.p (bA (i2.2.2:Int) f.au.length)) fun _ =>
 .br ((((((f.au.getD i2.2.2 default).kind) != 1)&&(((f.au.getD i2.2.2 default).kind) != 3))&&(((f.au.getD i2.2.2 default).kind) != 4))||(decide (((f.au.getD i2.2.2 default).day) > day)))
 (.nx 8 13 i2.2.2 (i2.1,i2.2.1,i2.2.2+1))
 (.br ((!i2.2.1)||(decide (((f.au.getD i2.2.2 default).day) < i2.1)))
 (.nx 8 13 i2.2.2 ((f.au.getD i2.2.2 default).day,true,i2.2.2+1))
 (.nx 8 13 i2.2.2 (i2.1,i2.2.1,i2.2.2+1))))
 (.fin (.inl (.inr (i2.1,i2.2.1)))))
 (fun (b1:Int × Bool)=>⟨[(6,iv b1.1),(7,bv b1.2)],[]⟩) fun b1 =>
 .fin (b1.1,b1.2)
def gM f day:=(gL f day).val
theorem xT (f:ar) (day:Int):(gL f day).aZ (fun _=>True):=by
 unfold gL
 exact mu
def iu f day:=kk tok mixed Tryz.func106 [av f.cells,iv day] (fun x=>.eD [iv x.1,bv x.2]) true (gL f day) (gM f day) (u0 (xT f day))
def gm (f:ar) (part:Int) (day:Int):Sk (Unit) :=
 .fin ()
def rY f part day:=(gm f part day).val
theorem nV (f:ar) (part:Int) (day:Int):rY f part day=():=rfl
theorem wC (f:ar) (part:Int) (day:Int):(gm f part day).aZ (fun _=>True):=by
 unfold gm
 exact mO
def gN f part day:=kk tok mixed Tryz.func107 [av f.cells,iv part,iv day] (fun x=>.fn 146 [.ref f.cells,.ref [dI day],.ref [dI part]]) false (gm f part day) (rY f part day) (u0 (wC f part day))
end
section
open Go Go.Av
def BN (f:ar) (day part:Int) (i:Nat):Bool :=
 ((((f.ah.getD i default).kind == 2)&&((f.ah.getD i default).part == part))&&decide ((f.ah.getD i default).day≤day))&&!(gp (dQ f day) ((i:Nat):Int) false)
def bz (f:ar) (day part:Int):List (Int × Sign):=((List.range f.ah.length).filter (BN f day part)).map fun i=>(((i:Nat):Int),f.ah.getD i default)
def Hn (y:Int × Sign):List AV:=[iv y.1,av y.2.cells]
def ac9:Code:=Tryz.f146.body.getD .skip
def Qq:Code:=cA (cA (cB (cB ac9)))
def Ol:Code:=cA (cB (cB Qq))
def Qr:Array Oper:=opsOf (cA (cB (cA Ol)))
def Vc (f:ar) (day part:Int) (m:List (Int × Bool)) (i:Nat):List (Nat × AV):=[(2,.ref [dI day]),(3,.ref [dI part]),(5,pmM dB m),(12,lv Sign.cells f.ah),(13,iv ((f.ah.length:Nat):Int)),(14,iv ((i:Nat):Int))]
def rZ (f:ar) (day part:Int) (i:Nat):Nat:=((List.range i).filter (BN f day part)).length
def WS:List Item:=[.code (cB (cB (cA Ol))),.inBlock 1,.code (cB (cB (cB Qq))),.inLoop Qq,.inBlock 0]
theorem Qs (f:ar) (day part:Int) {i:Nat} (hi:i < f.ah.length) (h:BN f day part i=true):((bz f day part).map Hn)[rZ f day part i]? = some (Hn (((i:Nat):Int),f.ah.getD i default)):=by
 have e:List.range f.ah.length=List.range i++i :: (List.range' (i+1) (f.ah.length - i - 1)):=by
  rw [List.range_eq_range',List.range_eq_range']
  have h1:=List.range'_append (s:=0) (m:=i) (n:=f.ah.length - i) (step:=1)
  have h2:f.ah.length - i=(f.ah.length - i - 1)+1:=by omega
  rw [show f.ah.length=i+(f.ah.length - i) by omega,← h1,h2,List.range'_succ]
  simp
 unfold bz rZ
 rw [e,List.filter_append,List.filter_cons_of_pos h]
 simp
theorem Om (f:ar) (day part:Int) (i:Nat):rZ f day part (i+1)=bif BN f day part i then rZ f day part i+1 else rZ f day part i:=by
 unfold rZ
 rw [List.range_succ,List.filter_append]
 cases h:BN f day part i <;> simp [h]
def BO (q:Nat):Oper:=Qr.getD q default
def Qt (f:ar) (day part:Int) (i:Nat) (sl:List (Nat × AV)):St:=⟨sl++[(6,iv ((i:Nat):Int)),(7,.ptr 7 0)]++Vc f day part (dQ f day) i,[(7,.box ((f.ah.getD i default).cells.map .d))]⟩
def DR (f:ar) (i:Nat):Sk Bool :=
 .zC 12 0 f.ah.length <| .br (decide (((i:Nat):Int) < ((f.ah.length:Nat):Int))) (.r 3 (.p (bA ((i:Nat):Int) f.ah.length)) fun _=>.fin true) (.fin false)
def XH (f:ar) (i:Nat):Sk Unit :=
 .zC 12 0 f.ah.length <| .H0 <| .r 5 .z fun _=>.wi 14 (aq (((i:Nat):Int)+1)) ((i+1:Nat):Int) <| .fin ()
def Vd (f:ar) (day part:Int) (i:Nat):aY Unit :=
 .wh ((((f.ah.getD i default).kind == 2)&&((f.ah.getD i default).part == part))&&decide ((f.ah.getD i default).day≤day)) true (.al (.t (A8 dB (dQ f day))) (.o [.cast 37 (getM dB (dQ f day) ((i:Nat):Int) false)]))
theorem su (f:ar) (day part:Int):Sg Tryz.prog 146 [.ref f.cells,.ref [dI day],.ref [dI part]] ((bz f day part).map Hn):=by
 refine Sg.intro (T:=TT) Tryz.func146 rfl (by kernel_rfl) (Nat.le_of_ble_eq_true (by kernel_rfl)) (fun X=>?_)
 have hr4:cA (cB (cA Ol))=.region 4 Qr false:=by kernel_rfl
 have hrg:List.range' 22 (Qr.size - 22)=[22,23,24,25,26,27]:=by kernel_rfl
 have key:∀ d i,i+d=f.ah.length→G (X.g TT Tryz.f146 (X.H (rZ f day part i))) [.code Qq,.inLoop Qq,.inBlock 0] ⟨Vc f day part (dQ f day) i,[]⟩:=by
  intro d
  induction d with
  | zero =>
   intro i hi
   refine qu.sk tok mixed Tryz.func146 _ (DR f i) (fun b=>bif b then .go (.code (cA (cB (cA Ol))) :: WS) (Qt f day part i []) else .go [] ⟨[],[]⟩) 100 (by kernel_rfl) ?_ ?_
   ·refine Sk.aU _ ?_
    simp only [DR,Sk.jb,aY.p,bA,implies_true,and_true]
    intro h hd
    simp at hd
    omega
   ·intro a ha
    have:(DR f i).val=false:=by simp only [DR,Sk.val]; simp; omega
    rw [this] at ha
    subst ha
    refine (qu.ret Tryz.func146 (by kernel_rfl) (fun C h=>.inl ?_)).1
    have e:rZ f day part i=((bz f day part).map Hn).length:=by
     have:i=f.ah.length:=by omega
     subst this
     simp [rZ,bz]
    rw [← e]
    exact h
  | succ d ih =>
   intro i hi
   have di:i < f.ah.length:=by omega
   refine qu.sk tok mixed Tryz.func146 _ (DR f i) (fun b=>bif b then .go (.code (cA (cB (cA Ol))) :: WS) (Qt f day part i []) else .go [] ⟨[],[]⟩) 100 (by kernel_rfl) ?_ ?_
   ·refine Sk.aU _ ?_
    simp only [DR,Sk.jb,aY.p,bA,implies_true,and_true]
    intro _ _
    omega
   ·intro a ha
    have:(DR f i).val=true:=by simp only [DR,Sk.val]; simp; omega
    rw [this] at ha
    subst ha
    show G _ _ _
    rw [hr4]
    -- behind JS yield
    have next:∀ st,HW st ⟨(46,bv false) :: Vc f day part (dQ f day) i,[]⟩→G (X.g TT Tryz.f146 (X.H (rZ f day part (i+1)))) WS st:=by
     intro st kE
     refine .le kE ?_
     refine qu.sk tok mixed Tryz.func146 _ (XH f i) (fun _=>.go [.inLoop Qq,.inBlock 0] ⟨Vc f day part (dQ f day) (i+1),[]⟩) 100 (by kernel_rfl) ?_ (fun _ _=>.inLoop (ih (i+1) (by omega)))
     refine Sk.aU _ ?_
     simp only [XH,Sk.jb,aY.z,maxLen,implies_true,and_true]
     intro h
     refine ⟨trivial,fun _ _ _=>?_⟩
     refine (aD ?_ ?_).trans ?_ <;> omega
    refine G.yr ?_
    refine YW.ac3 tok mixed (Vd f day part i) 22 (fun _=>Qt f day part i [(40,bv (BN f day part i))]) (by kernel_rfl) (Nat.le_of_ble_eq_true (by kernel_rfl)) (fun _=>by kernel_rfl) ?_ ?_
    ·simp [Vd,aY.wh,aY.al,aY.t,aY.o]
    rw [hrg]
    refine YW.ac4 (s:=40) (b:=BN f day part i) rfl (Nat.le_of_ble_eq_true (by kernel_rfl)) ?_
    have zm:=Om f day part i
    cases he:BN f day part i with
    | true =>
     rw [he,cond_true] at zm
     refine YW.mvC (o:=BO 22) (d:=41) (u:=0) (by kernel_rfl) (by kernel_rfl) (by kernel_rfl) (by simp) (by kernel_rfl) ?_
     refine YW.XA tok mixed (o:=BO 23) (Qt f day part i [(42,iv ((i:Nat):Int))]) (by kernel_rfl) (by kernel_rfl) (by kernel_rfl) ?_
     refine YW.XA tok mixed (o:=BO 24) (Qt f day part i [(43,av (f.ah.getD i default).cells),(42,iv ((i:Nat):Int))]) (by kernel_rfl) (by kernel_rfl) (by kernel_rfl) ?_
     refine YW.ylC (o:=BO 25) (d:=44) (u:=41) (n:=rZ f day part i) (ts:=[42,43]) (c:={ callee:=.value (.tmp 41),args:=#[.tmp 42,.tmp 43],argTypes:=#[3,96] }) (by kernel_rfl) (by kernel_rfl) (by kernel_rfl) rfl (by simp) (by kernel_rfl) (Qs f day part di he) rfl (by kernel_rfl) (by kernel_rfl) ?_ ?_
     ·refine YW.XA tok mixed (o:=BO 26) (Qt f day part i [(45,bv false)]) (by kernel_rfl) (by kernel_rfl) (by kernel_rfl) ?_
      refine YW.UE (o:=BO 27) (d:=46) (x:=.tmp 45) (y:=.const (.bool false)) false (by kernel_rfl) (by kernel_rfl) (by kernel_rfl) (by kernel_rfl) (by kernel_rfl) ?_
      refine YW.nil (T:=TT) (fn:=Tryz.f146) (by simp) ?_
      rw [← zm]
      exact next _ (Rl (by kernel_rfl))
     ·refine YW.XA tok mixed (o:=BO 26) (Qt f day part i [(45,bv true)]) (by kernel_rfl) (by kernel_rfl) (by kernel_rfl) ?_
      refine YW.UE (o:=BO 27) (d:=46) (x:=.tmp 45) (y:=.const (.bool false)) true (by kernel_rfl) (by kernel_rfl) (by kernel_rfl) (by kernel_rfl) (by kernel_rfl) ?_
      refine YW.nil (T:=TT) (fn:=Tryz.f146) (by simp) ?_
      refine qu.sk tok mixed Tryz.func146 _ (.HZ (.fin ()):Sk Unit) (fun _=>.go (.code .ret :: WS.tail) ⟨[],[]⟩) 100 (by kernel_rfl) trivial (fun _ _=>(qu.ret Tryz.func146 (by kernel_rfl) (fun C h=>.inr h)).2 _)
    | false =>
     rw [he,cond_false] at zm
     refine YW.Nw (o:=BO 22) (d:=41) (by kernel_rfl) (by kernel_rfl) (by kernel_rfl) ?_
     refine YW.Nw (o:=BO 23) (d:=42) (by kernel_rfl) (by kernel_rfl) (by kernel_rfl) ?_
     refine YW.Nw (o:=BO 24) (d:=43) (by kernel_rfl) (by kernel_rfl) (by kernel_rfl) ?_
     refine YW.Nw (o:=BO 25) (d:=44) (by kernel_rfl) (by kernel_rfl) (by kernel_rfl) ?_
     refine YW.Nw (o:=BO 26) (d:=45) (by kernel_rfl) (by kernel_rfl) (by kernel_rfl) ?_
     refine YW.UE (o:=BO 27) (d:=46) (x:=.tmp 45) (y:=.const (.bool false)) false (by kernel_rfl) (by kernel_rfl) (by kernel_rfl) (by kernel_rfl) (by kernel_rfl) ?_
     refine YW.nil (T:=TT) (fn:=Tryz.f146) (by simp) ?_
     rw [← zm]
     exact next _ (Rl (by kernel_rfl))
 refine qu.sk tok mixed Tryz.func146 _ (.r 0 ((nF f day).c) fun m=>.r 1 .z fun _=>.fin m:Sk (List (Int × Bool))) (fun m=>.go [.code (.loop Qq),.inBlock 0] ⟨Vc f day part m 0,[]⟩) 100 (by kernel_rfl) ?_ (fun m hm=>?_)
 ·refine Sk.aU _ ?_
  simp [Sk.jb,aY.z,gV.c,kk,kp,nF]
 ·have hm:m=dQ f day:=hm
  subst hm
  exact .UF (key f.ah.length 0 (by omega))
def eZ (f:ar) (day part:Int):ItC (Int × Sign):=⟨Tryz.prog,146,[.ref f.cells,.ref [dI day],.ref [dI part]],bz f day part,Hn,True,fun _=>su f day part⟩
end
section
open Go Go.Av
def nG (before:Int) (flags:Int):Sk (Int) :=
 .br (((dc .i64 flags 2) != 0)||(before != 0))
 (.fin 1)
 (.br ((dc .i64 flags 4) != 0)
 (.fin 2)
 (.fin 0))
def xU before flags:=(nG before flags).val
theorem Ho (before:Int) (flags:Int):(nG before flags).aZ (fun _=>True):=by
  unfold nG
  exact mO

def pc before flags:=kk tok mixed Tryz.func108 [iv before,iv flags] (fun x=>iv x) true (nG before flags) (xU before flags) (u0 (Ho before flags))
theorem Oo (f:ar) (day part:Int):(bz f day part).length≤f.ah.length:=by
  unfold bz
  rw [List.length_map]
  exact Nat.le_trans (List.length_filter_le _ _) (by simp)
theorem Hp {f:ar} {day part:Int} {i:Nat} {y:Int × Sign} (h:(bz f day part)[i]? = some y):i < f.ah.length∧0≤y.1∧y.1 < f.ah.length∧y.2=f.ah.getD y.1.toNat default∧y.2.kind=2∧y.2.part=part∧y.2.day≤day∧gp (dQ f day) y.1 false=false:=by
  have h1:=(List.getElem?_eq_some_iff.1 h).1
  have h2:=List.mem_of_getElem? h
  have h3:=Oo f day part
  unfold bz at h2
  obtain ⟨q,hq,rfl⟩:=List.mem_map.1 h2
  rw [List.mem_filter,List.mem_range] at hq
  obtain ⟨hq1,ZV⟩:=hq
  unfold BN at ZV
  simp only [Bool.and_eq_true,beq_iff_eq,decide_eq_true_eq,Bool.not_eq_true'] at ZV
  exact ⟨by omega,by omega,by omega,rfl,ZV.1.1.1,ZV.1.1.2,ZV.1.2,ZV.2⟩
def iP (f:ar) (part:Int) (day:Int):Sk (Ku) :=
 .r 2 ((iu f day).c) fun x1 =>
 .r 3 ((gN f part day).c) fun _ =>
 .rf (eZ f day part) (fun ki3 i3=>i3.1.length≤ki3∧i3.2.2.2.2.length≤ki3∧∀ y,y∈i3.1→0≤y∧y < (f.ah.length:Int)∧(f.ah.getD y.toNat default).day≤day) (fun e5=>e5.1.length≤f.ah.length∧∀ y,y∈e5.1→0≤y∧y < (f.ah.length:Int)∧(f.ah.getD y.toNat default).day≤day) 0 (([],f.aH.bO,f.aH.bO == (-1),0,[]):(List Int) × Int × Bool × Int × (List Int))
 (fun (i3:(List Int) × Int × Bool × Int × (List Int))=>[(100000,bg 3 1 bF i3.1),(100001,bg 3 1 bF i3.2.2.2.2),(7,.box ([ow 100000 i3.1]++[iv i3.2.1,iv (-1),bv i3.2.2.1,iv i3.2.2.2.1,ow 100001 i3.2.2.2.2]))]) (fun (e5:(List Int) × Int × Int × Bool × Int × (List Int))=>[(100002,bg 3 1 bF e5.1),(100003,bg 3 1 bF e5.2.2.2.2.2),(7,.box ([ow 100002 e5.1]++[iv e5.2.1,iv e5.2.2.1,bv e5.2.2.2.1,iv e5.2.2.2.2.1,ow 100003 e5.2.2.2.2.2]))])
 (fun i3 y4 =>
 .br ((!i3.2.2.1)&&(y4.2.dY != i3.2.1))
 (.fin (.inl (i3.1,i3.2.1,y4.1,i3.2.2.1,i3.2.2.2.1,i3.2.2.2.2)))
 (.r 8 (.al (.o [.fc (fQ dr [y4.1])]) (.al (.o [.fc (mV dr i3.1 [y4.1])]) (.al (.t (dr.pB [y4.1])) (.p (yw i3.1.length [y4.1].length 8))))) fun _ =>
 .r 9 ((pc i3.2.2.2.1 y4.2.flags).c) fun x6 =>
 .br (x1.2&&(decide (y4.2.day > x1.1)))
 (.r 11 (.al (.o [.fc (fQ dr [y4.1])]) (.al (.o [.fc (mV dr i3.2.2.2.2 [y4.1])]) (.al (.t (dr.pB [y4.1])) (.p (yw i3.2.2.2.2.length [y4.1].length 8))))) fun _ =>
 .fin (.inr (i3.1++[y4.1],y4.2.bP,y4.2.bP == (-1),x6,i3.2.2.2.2++[y4.1])))
 (.fin (.inr (i3.1++[y4.1],y4.2.bP,y4.2.bP == (-1),x6,i3.2.2.2.2))))) fun r=>match r with
 | .inl e5=>(.fin ({ ah:=e5.1,gZ:=e5.2.1,broken:=e5.2.2.1,Qp:=e5.2.2.2.1,Vb:=e5.2.2.2.2.1,late:=e5.2.2.2.2.2 }:Ku))
 | .inr j7=>(.fin ({ ah:=j7.1,gZ:=j7.2.1,broken:=(-1),Qp:=j7.2.2.1,Vb:=j7.2.2.2.1,late:=j7.2.2.2.2 }:Ku))
def sZ f part day:=(iP f part day).val
theorem EM (f:ar) (part:Int) (day:Int):(iP f part day).cC (fun (x:Ku)=>x.ah.length≤f.ah.length∧∀ y,y∈x.ah→0≤y∧y < (f.ah.length:Int)∧(f.ah.getD y.toNat default).day≤day):=by
  refine Sk.aX _ ?_
  unfold iP
  simp only [Sk.cx,Sk.aI,reduceCtorEq,ON,kk,kp,iu,gN,pc,eZ,Sum.forall,nV,forall_eq,maxLen]
  refine fun _=>⟨⟨by simp,by simp,fun y h=>by cases h⟩,fun i s y hs hy=>?_,fun a ha=>ha,fun b hb=>⟨Nat.le_trans hb.1 (Oo _ _ _),hb.2.2⟩⟩
  have hm:=Hp hy
  have AN:∀ z,z∈s.1++[y.1]→0≤z∧z < (f.ah.length:Int)∧(f.ah.getD z.toNat default).day≤day:=fun z hz=>by
    rcases List.mem_append.1 hz with h | h
    · exact hs.2.2 z h
    · simp only [List.mem_singleton] at h
      subst h
      exact ⟨hm.2.1,hm.2.2.1,by rw [← hm.2.2.2.1]; exact hm.2.2.2.2.2.2.1⟩
  have hl1:(s.1++[y.1]).length=s.1.length+1:=by simp
  have Yi:(s.2.2.2.2++[y.1]).length=s.2.2.2.2.length+1:=by simp
  have Yn:[y.1].length=1:=rfl
  rw [hl1,Yi]
  exact ⟨fun _=>⟨by omega,hs.2.2⟩,fun _ _=>⟨fun _ _=>⟨by omega,by omega,AN⟩,fun _=>⟨by omega,by omega,AN⟩⟩⟩

theorem Hq (f:ar) (part:Int) (day:Int) (hf:f.Small):(iP f part day).aZ (fun _=>True):=by
  refine Sk.aU _ ?_
  unfold iP
  simp only [Sk.jb,Sk.aI,reduceCtorEq,ON,kk,kp,Sk.cx,iu,gN,pc,eZ,Sum.forall,nV,forall_eq,maxLen]
  refine fun _=>⟨⟨by simp,by simp,fun y h=>by cases h⟩,fun i s y hs hy=>?_⟩
  have hm:=Hp hy
  have AN:∀ z,z∈s.1++[y.1]→0≤z∧z < (f.ah.length:Int)∧(f.ah.getD z.toNat default).day≤day:=fun z hz=>by
    rcases List.mem_append.1 hz with h | h
    · exact hs.2.2 z h
    · simp only [List.mem_singleton] at h
      subst h
      exact ⟨hm.2.1,hm.2.2.1,by rw [← hm.2.2.2.1]; exact hm.2.2.2.2.2.2.1⟩
  have hl1:(s.1++[y.1]).length=s.1.length+1:=by simp
  have Yi:(s.2.2.2.2++[y.1]).length=s.2.2.2.2.length+1:=by simp
  have Yn:[y.1].length=1:=rfl
  rw [hl1,Yi,Yn]
  have hf1:=hf.1
  exact ⟨⟨fun _=>⟨by omega,hs.2.2⟩,fun _ _=>⟨fun _ _=>⟨by omega,by omega,AN⟩,fun _=>⟨by omega,by omega,AN⟩⟩⟩,fun _=>⟨by omega,hs.2.2⟩,fun _=>⟨⟨by omega,by omega⟩,fun _=>⟨fun _=>⟨⟨by omega,by omega⟩,fun _=>⟨by omega,by omega,AN⟩⟩,fun _=>⟨by omega,by omega,AN⟩⟩⟩⟩

def tE f part day:=kp tok mixed Tryz.func56 [av f.cells,iv part,iv day] (fun x=>av x.cells) false (sZ f part day) (Hq f part day) (EM f part day)
def gP (v:View) (part:Int):Sk ((List Int)) :=
 .r 1 ((tE v.all part v.day).c) fun x1 =>
 .fin x1.ah
def az v part:=(gP v part).val
theorem sa (v:View) (part:Int):(gP v part).cC (fun (x:(List Int))=>x.length≤v.all.ah.length∧∀ y,y∈x→0≤y∧y < (v.all.ah.length:Int)∧(v.all.ah.getD y.toNat default).day≤v.day):=by
  unfold gP
  try simp only [tE]
  exact B7

theorem lr (v:View) (part:Int):(fun (x:(List Int))=>x.length≤v.all.ah.length∧∀ y,y∈x→0≤y∧y < (v.all.ah.length:Int)∧(v.all.ah.getD y.toNat default).day≤v.day) (az v part):=have h:=Sk.cZ _ (sa v part); h
theorem BP (v:View) (part:Int) (VB:v.all.Small):(gP v part).aZ (fun _=>True):=by
  unfold gP
  try simp only [tE]
  exact mu

def oG v part:=kp tok mixed Tryz.func25 [av v.cells,iv part] (fun x=>lv bF x) false (az v part) (BP v part) (sa v part)
def iw (c_:fD) (aj:List Int):Sk (Unit) :=
 .fin ()
def uC c_ aj:=(iw c_ aj).val
theorem yW (c_:fD) (aj:List Int):uC c_ aj=():=rfl
theorem yX (c_:fD) (aj:List Int):(iw c_ aj).aZ (fun _=>True):=by
  unfold iw
  exact mO

def sb c_ aj:=kk tok mixed Tryz.func26 [av c_.cells,lv bF aj] (fun x=>.fn 57 [.ref c_.cells,.ref [lf bF aj]]) false (iw c_ aj) (uC c_ aj) (u0 (yX c_ aj))
structure mI where
  jq:Int
  sign:Int
  state:Int
  deriving Inhabited
def mI.cells (c:mI):List D:=[dI c.jq,dI c.sign,dI c.state]
def iy (x_:Fact) (v:Int) (v':Int):Sk (Bool) :=
 .fin ((x_.kind == v)&&(x_.at_ == v'))
def eP x_ v v':=(iy x_ v v').val
theorem qk (x_:Fact) (v:Int) (v':Int):eP x_ v v'=((x_.kind == v)&&(x_.at_ == v')):=rfl
theorem yY (x_:Fact) (v:Int) (v':Int):(iy x_ v v').aZ (fun _=>True):=by
  unfold iy
  exact mO

def mh x_ v v':=kk tok mixed Tryz.func148 [av x_.cells,.ref [dI v],.ref [dI v']] (fun x=>bv x) true (iy x_ v v') (eP x_ v v') (u0 (yY x_ v v'))
def dA (s:List Fact) (v:Int) (v':Int):Sk (Int) :=
 .bind true (fun b1=>∀ q,q < s.length→eP (s.getD q default) v v'=false)
 (.loop (default:Sum (Int) (Unit)) (fun i2=>∀ q,q < i2→eP (s.getD q default) v v'=false) (fun i2=>s.length - i2) (0:Nat)
 (fun (i2:Nat)=>⟨[(8,iv ((i2:Nat):Int))],[]⟩) fun i2 =>
 .lt 0 0 i2 s.length
 (.r 4 (.al (.p (bA ((i2:Nat):Int) s.length)) ((mh (s.getD i2 default) v v').c)) fun x3 =>
 .br x3
 (.fin (.inl (.inl ((i2:Nat):Int))))
 (.nx 6 8 i2 (i2+1)))
 (.fin (.inl (.inr ()))))
 (fun (_:Unit)=>⟨[],[]⟩) fun _ =>
 .fin (-1)
def xV s v v':=(dA s v v').val
theorem tF (s:List Fact) (v:Int) (v':Int):(dA s v v').cC (fun (x:Int)=>(x = -1∧∀ q,q < s.length→eP (s.getD q default) v v'=false)∨(0≤x∧x < s.length∧eP (s.getD x.toNat default) v v'=true∧∀ q,(q:Nat) < x.toNat→eP (s.getD q default) v v'=false)):=by
  unfold dA
  try simp only [mh,qk]
  exact O3

theorem uD (s:List Fact) (v:Int) (v':Int):(dA s v v').aZ (fun _=>True):=by
  unfold dA
  try simp only [mh,qk]
  exact wx

def nH s v v':=kp tok mixed Tryz.func147 [lv Fact.cells s,.fn 148 [.ref [dI v],.ref [dI v']]] (fun x=>iv x) true (xV s v v') (u0 (uD s v v')) (tF s v v')
def kY (v:View) (kind:Int) (sign:Int):Sk (Int) :=
 .r 1 ((nH v.now.facts kind sign).c) fun x1 =>
 .br (decide (x1 < 0))
 (.fin 2)
 (.r 4 (.p (bA x1 v.now.facts.length)) fun _ =>
 .br (((v.now.facts.getD x1.toNat default).n) == 0)
 (.fin 0)
 (.fin 1))
def I9 v kind sign:=(kY v kind sign).val
theorem Db (v:View) (kind:Int) (sign:Int):(kY v kind sign).aZ (fun _=>True):=by
  unfold kY
  try simp only [nH]
  exact mu

def pZ v kind sign:=kk tok mixed Tryz.func109 [av v.cells,iv kind,iv sign] (fun x=>iv x) true (kY v kind sign) (I9 v kind sign) (u0 (Db v kind sign))
def s5 (a:Int) (b:Int):Sk (Int) :=
 .br ((a == 0)||(b == 0))
 (.fin 0)
 (.br ((a == 2)||(b == 2))
 (.fin 2)
 (.fin 1))
def pO a b:=(s5 a b).val
theorem Oq (a:Int) (b:Int):(s5 a b).aZ (fun _=>True):=by
  unfold s5
  exact mO

def oH a b:=kk tok mixed Tryz.func62 [iv a,iv b] (fun x=>iv x) true (s5 a b) (pO a b) (u0 (Oq a b))
def pd (a:Int) (b:Int):Sk (Int) :=
 .br ((a == 1)||(b == 1))
 (.fin 1)
 (.br ((a == 2)||(b == 2))
 (.fin 2)
 (.fin 0))
def Qu a b:=(pd a b).val
theorem Ja (a:Int) (b:Int):(pd a b).aZ (fun _=>True):=by
  unfold pd
  exact mO

def BQ a b:=kk tok mixed Tryz.func110 [iv a,iv b] (fun x=>iv x) true (pd a b) (Qu a b) (u0 (Ja a b))
def iz (c_:fD) (link:Int) (last:Int):Sk (Int) :=
 .r 2 (.dep ((pZ c_.view 0 link).c) fun x1=>.dep ((pZ c_.view 2 link).c) fun x2=>(oH x1 x2).c) fun p8 =>
 .r 3 (.dep ((gz c_.r c_.forum 3 ({ file:=c_.view.now,sign:=link,gZ:=last,im:=(-1),due:=c_.due,day:=c_.view.day }:fj)).c) fun x4=>.dep ((fk x4).c) fun x5=>(BQ p8.2.2 x5).c) fun p7 =>
 .fin p7.2.2
def cp c_ link last:=(iz c_ link last).val
theorem yZ (c_:fD) (link:Int) (last:Int) (O5:c_.view.now.Small) (Ot:c_.r.ca) (LV:c_.r.Small):(iz c_ link last).aZ (fun _=>True):=by
  unfold iz
  try simp only [gz,fk,oH,BQ,pZ]
  exact mu

def sc c_ link last:=kk tok mixed Tryz.func58 [av c_.cells,iv link,iv last] (fun x=>iv x) true (iz c_ link last) (cp c_ link last) (u3 (yZ c_ link last))
end
section
open Go Go.Av
def kZ (c:fD) (last:Int):List Int→mI→List mI
 | [],o=>[o]
 | l :: r,o=>bif cp c l last == 0 then [o] else bif cp c l last == 2 then { o with state:=2 } :: kZ c last r { jq:=(c.view.now.ah.getD l.toNat default).bP,sign:=l,state:=2 } else kZ c last r { o with jq:=(c.view.now.ah.getD l.toNat default).bP,sign:=l }
def qI (aj:List Int):Int:=aj.getD (aq (((aj.length:Nat):Int) - 1)).toNat default
def bo (c:fD) (aj:List Int):List mI:=kZ c (qI aj) aj { jq:=c.view.now.aH.bO,sign:=-1,state:=1 }
def Hr (y:mI):List AV:=[av y.cells]
def Nd:Code:=Tryz.f57.body.getD .skip
def aba:Code:=cB (cA (cB Nd))
def Qv:Code:=cA (cA aba)
def xW:Code:=cB (cB Nd)
def abb:Code:=cA (cA (cB (cB Qv)))
def Y2:Code:=cB (cB (cB Qv))
def XI:Code:=cB (cB (cB abb))
def Ou:Code:=cB XI
def XJ:Code:=cA (cB (cA XI))
def Ve:Code:=cA (cB XJ)
def abc:Code:=cB (cB XJ)
def vD:Array Oper:=opsOf Ve
def xX:Array Oper:=opsOf xW
def Ov:List Item:=[.inBlock 1,.code Y2,.inLoop Qv,.inBlock 0,.code xW]
def Jc (c:fD) (aj:List Int) (i:Nat) (o:mI) (sl:List (Nat × AV)):St:=⟨sl++[(1,.ref c.cells),(2,.ref [lf bF aj]),(4,.ptr 4 0),(14,lv bF aj),(15,iv ((aj.length:Nat):Int)),(16,iv ((i:Nat):Int))],[(4,.box (o.cells.map .d))]⟩
def Vf (c:fD) (aj:List Int) (i:Nat) (s:Int):mI:={ jq:=(c.view.now.ah.getD (aj.getD i default).toNat default).bP,sign:=aj.getD i default,state:=s }
def DS (c:fD) (aj:List Int) (i:Nat):Sk (Option Bool) :=
 .zC 14 0 aj.length <|
 .br (decide (((i:Nat):Int) < ((aj.length:Nat):Int)))
  (.r 3 (.p (bA ((i:Nat):Int) aj.length)) fun _ =>
   .r 4 (.al (.p (bA (aq (((aj.length:Nat):Int) - 1)) aj.length)) ((sc c (aj.getD i default) (qI aj)).c)) fun x =>
   .br (x == 0) (.fin none) (.br (x == 2) (.r 7 .z fun _=>.fin (some true)) (.fin (some false))))
  (.fin none)
def XK (c:fD) (aj:List Int) (i:Nat):Sk Unit :=
 .zC 14 0 aj.length <| .r 9 (.p (bA (aj.getD i default) c.view.now.ah.length)) fun _=>.r 10 .z fun _=>.wi 16 (aq (((i:Nat):Int)+1)) ((i+1:Nat):Int) <| .fin ()
def Qw (c:fD) (aj:List Int):Prop:=aj.length≤1000000∧(∀ i,i < aj.length→0≤aj.getD i default∧aj.getD i default < c.view.now.ah.length)∧∀ i,i < aj.length→(sc c (aj.getD i default) (qI aj)).pre
def XL (c:fD) (aj:List Int) (i:Nat) (o:mI):Option Bool→Uu
 | none=>.go [.code xW] ⟨[(4,.ptr 4 0)],[(4,.box (o.cells.map .d))]⟩
 | some true=>.go (.code Ve :: .code abc :: .code Ou :: Ov) (Jc c aj i { o with state:=2 } [(6,iv (aj.getD i default))])
 | some false=>.go (.code Ou :: Ov) (Jc c aj i o [(6,iv (aj.getD i default))])
theorem uE (c:fD) (aj:List Int) (hp:Qw c aj):Sg Tryz.prog 57 [.ref c.cells,.ref [lf bF aj]] ((bo c aj).map Hr):=by
 refine Sg.intro (T:=TT) Tryz.func57 rfl (by kernel_rfl) (Nat.le_of_ble_eq_true (by kernel_rfl)) (fun X=>?_)
 have hr8:Ve=.region 8 vD false:=by kernel_rfl
 have ada:xW=.region 11 xX false:=by kernel_rfl
 have hg8:List.range vD.size=[0,1,2,3]:=by kernel_rfl
 have adb:List.range xX.size=[0,1,2]:=by kernel_rfl
 have ZB:∀ k o pre r,bo c aj=pre++o :: r→pre.length=k→((bo c aj).map Hr)[k]? = some (Hr o):=fun k o pre r h hk=>by
  rw [h]; subst hk; simp
 have fin:∀ k o pre,bo c aj=pre++[o]→pre.length=k→G (X.g TT Tryz.f57 (X.H k)) [.code xW] ⟨[(4,.ptr 4 0)],[(4,.box (o.cells.map .d))]⟩:=by
  intro k o pre h hk
  rw [ada]
  refine G.yr ?_
  rw [adb]
  refine YW.mvC (o:=xX.getD 0 default) (d:=50) (u:=0) (by kernel_rfl) (by kernel_rfl) (by kernel_rfl) (by simp) (by kernel_rfl) ?_
  refine YW.XA tok mixed (o:=xX.getD 1 default) ⟨[(51,av o.cells),(4,.ptr 4 0)],[(4,.box (o.cells.map .d))]⟩ (by kernel_rfl) (by kernel_rfl) (by kernel_rfl) ?_
  refine YW.ylC (o:=xX.getD 2 default) (d:=52) (u:=50) (n:=k) (ts:=[51]) (c:={ callee:=.value (.tmp 50),args:=#[.tmp 51],argTypes:=#[93] }) (by kernel_rfl) (by kernel_rfl) (by kernel_rfl) rfl (by simp) (by kernel_rfl) (ZB k o pre [] h hk) rfl (by kernel_rfl) (by kernel_rfl) ?_ ?_
  ·refine YW.nil (T:=TT) (fn:=Tryz.f57) (by simp) (qu.ret Tryz.func57 (by kernel_rfl) (fun C h'=>.inl ?_)).1
   have:((bo c aj).map Hr).length=k+1:=by rw [h]; simp [hk]
   rw [this]
   exact h'
  ·exact YW.nil (T:=TT) (fn:=Tryz.f57) (by simp) (qu.ret Tryz.func57 (by kernel_rfl) (fun C h'=>.inr h')).1
 have key:∀ d i,i+d=aj.length→∀ k o pre,bo c aj=pre++kZ c (qI aj) (aj.drop i) o→pre.length=k→G (X.g TT Tryz.f57 (X.H k)) [.code Qv,.inLoop Qv,.inBlock 0,.code xW] (Jc c aj i o []):=by
  intro d
  induction d with
  | zero =>
   intro i hi k o pre h hk
   refine qu.sk tok mixed Tryz.func57 _ (DS c aj i) (XL c aj i o) 100 (by kernel_rfl) ?_ ?_
   ·refine Sk.aU _ ?_
    simp only [DS,Sk.jb]
    refine fun _=>⟨fun hd=>?_,fun _=>trivial⟩
    simp at hd
    omega
   ·intro a ha
    have:(DS c aj i).val=none:=by
     have e:decide (((i:Nat):Int) < ((aj.length:Nat):Int))=false:=decide_eq_false (by omega)
     simp only [DS,Sk.val,e,cond_false]
    rw [this] at ha
    subst ha
    refine fin k o pre ?_ hk
    rw [h,List.drop_of_length_le (by omega)]
    rfl
  | succ d ih =>
   intro i hi k o pre h hk
   have di:i < aj.length:=by omega
   have QX:aj.drop i=aj.getD i default :: aj.drop (i+1):=by
    rw [List.drop_eq_getElem_cons di]
    simp [List.getD,di]
   have next:∀ k' o' WT st,HW st (Jc c aj i o' [(6,iv (aj.getD i default))])→bo c aj=WT++kZ c (qI aj) (aj.drop (i+1)) (Vf c aj i o'.state)→WT.length=k'→G (X.g TT Tryz.f57 (X.H k')) (.code Ou :: Ov) st:=by
    intro k' o' WT st kE h' eW
    refine .le kE ?_
    refine qu.sk tok mixed Tryz.func57 _ (XK c aj i) (fun _=>.go [.inLoop Qv,.inBlock 0,.code xW] (Jc c aj (i+1) (Vf c aj i o'.state) [])) 100 (by kernel_rfl) ?_ (fun _ _=>.inLoop (ih (i+1) (by omega) k' _ WT h' eW))
    refine Sk.aU _ ?_
    simp only [XK,Sk.jb,aY.z,aY.p,bA,maxLen]
    have q1:=hp.2.1 i di
    have q2:=hp.1
    refine fun _=>⟨by omega,fun _ _ _=>⟨trivial,fun _ _ _=>⟨?_,trivial⟩⟩⟩
    refine (aD ?_ ?_).trans ?_ <;> omega
   refine qu.sk tok mixed Tryz.func57 _ (DS c aj i) (XL c aj i o) 100 (by kernel_rfl) ?_ ?_
   ·refine Sk.aU _ ?_
    have q2:=hp.1
    have q3:=hp.2.2 i di
    have e:aq (((aj.length:Nat):Int) - 1)=((aj.length:Nat):Int) - 1:=aD (by omega) (by omega)
    simp only [DS,Sk.jb,aY.p,aY.z,aY.al,gV.c,kk,kp,bA,maxLen,e,implies_true,true_and,and_true,and_self]
    exact fun _ _=>⟨by omega,fun _ _ _=>⟨by omega,q3⟩⟩
   ·intro a ha
    have hv:(DS c aj i).val=bif cp c (aj.getD i default) (qI aj) == 0 then none else bif cp c (aj.getD i default) (qI aj) == 2 then some true else some false:=by
     have e:decide (((i:Nat):Int) < ((aj.length:Nat):Int))=true:=decide_eq_true (by omega)
     simp only [DS,Sk.val,e,cond_true]
     rfl
    rw [hv] at ha
    rw [QX] at h
    simp only [kZ] at h
    cases h0:cp c (aj.getD i default) (qI aj) == 0 with
    | true =>
     rw [h0,cond_true] at ha h
     subst ha
     exact fin k o pre h hk
    | false =>
     rw [h0,cond_false] at ha h
     cases h2:cp c (aj.getD i default) (qI aj) == 2 with
     | true =>
      rw [h2,cond_true] at ha h
      subst ha
      show G _ _ _
      rw [hr8]
      refine G.yr ?_
      rw [hg8]
      refine YW.mvC (o:=vD.getD 0 default) (d:=34) (u:=0) (by kernel_rfl) (by kernel_rfl) (by kernel_rfl) (by simp) (by kernel_rfl) ?_
      refine YW.XA tok mixed (o:=vD.getD 1 default) (Jc c aj i { o with state:=2 } [(35,av ({ o with state:=2 }:mI).cells),(6,iv (aj.getD i default))]) (by kernel_rfl) (by kernel_rfl) (by kernel_rfl) ?_
      refine YW.ylC (o:=vD.getD 2 default) (d:=36) (u:=34) (n:=k) (ts:=[35]) (c:={ callee:=.value (.tmp 34),args:=#[.tmp 35],argTypes:=#[93] }) (by kernel_rfl) (by kernel_rfl) (by kernel_rfl) rfl (by simp) (by kernel_rfl) (ZB k _ pre _ h hk) rfl (by kernel_rfl) (by kernel_rfl) ?_ ?_
      ·refine YW.XA tok mixed (o:=vD.getD 3 default) (Jc c aj i { o with state:=2 } [(37,bv false),(6,iv (aj.getD i default))]) (by kernel_rfl) (by kernel_rfl) (by kernel_rfl) ?_
       refine YW.nil (T:=TT) (fn:=Tryz.f57) (by simp) ?_
       refine qu.sk tok mixed Tryz.func57 _ (.H0 (.fin ()):Sk Unit) (fun _=>.go (.code Ou :: Ov) (Jc c aj i { o with state:=2 } [(6,iv (aj.getD i default))])) 100 (by kernel_rfl) trivial (fun _ _=>next (k+1) { o with state:=2 } (pre++[{ o with state:=2 }]) _ (fun _ _ _ h=>h) (by rw [h]; simp [Vf]) (by simp [hk]))
      ·refine YW.XA tok mixed (o:=vD.getD 3 default) (Jc c aj i { o with state:=2 } [(37,bv true),(6,iv (aj.getD i default))]) (by kernel_rfl) (by kernel_rfl) (by kernel_rfl) ?_
       refine YW.nil (T:=TT) (fn:=Tryz.f57) (by simp) ?_
       refine qu.sk tok mixed Tryz.func57 _ (.HZ (.fin ()):Sk Unit) (fun _=>.go (.code .ret :: .code Ou :: Ov) ⟨[],[]⟩) 100 (by kernel_rfl) trivial (fun _ _=>(qu.ret Tryz.func57 (by kernel_rfl) (fun C h=>.inr h)).2 _)
     | false =>
      rw [h2,cond_false] at ha h
      subst ha
      exact next k o pre _ (fun _ _ _ h=>h) h hk
 refine qu.sk tok mixed Tryz.func57 _ (.r 0 .z fun _=>.r 1 .z fun _=>.fin ():Sk Unit) (fun _=>.go [.code (.loop Qv),.inBlock 0,.code xW] (Jc c aj 0 { jq:=c.view.now.aH.bO,sign:=-1,state:=1 } [])) 100 (by kernel_rfl) ?_ (fun _ _=>.UF (key aj.length 0 (by omega) 0 _ [] rfl rfl))
 refine Sk.aU _ ?_
 simp [Sk.jb,aY.z]
def jr (c:fD) (aj:List Int):ItC mI:=⟨Tryz.prog,57,[.ref c.cells,.ref [lf bF aj]],bo c aj,Hr,Qw c aj,fun h=>uE c aj h⟩
end
section
open Go Go.Av
def k5 (v:View) (sign:Int):Sk (Int) :=
 .r 1 (.p (bA sign v.now.ah.length)) fun _ =>
 .r 2 (.wh (sign == 0) false ((aF v.lead ((v.now.ah.getD sign.toNat default).part)).c)) fun x1 =>
 .br ((sign == 0)||(!x1))
 (.r 3 (.p (bA (0:Int) v.lead.length)) fun _ =>
 .fin (v.lead.getD 0 default))
 (.fin ((v.now.ah.getD sign.toNat default).part))
def ib v sign:=(k5 v sign).val
theorem Dc (v:View) (sign:Int) (hs:0≤sign∧sign < v.now.ah.length) (hl:v.lead.length≠0):(k5 v sign).aZ (fun _=>True):=by
 unfold k5
 try simp only [aF]
 exact mu
def l5 v sign:=kk tok mixed Tryz.func60 [av v.cells,iv sign] (fun x=>iv x) true (k5 v sign) (ib v sign) (u2 (Dc v sign))
def eQ (v:View) (part:Int) (cj:Int) (aj:List Int):Sk ((List Int)) :=
 .r 2 (.wh (cj != (-1)) true ((aF aj cj).c)) fun x1 =>
 .br ((cj != (-1))&&(!x1))
 (.fin [])
 (.bind true (fun b2=>b2.length≤v.now.ah.length∧∀ y,y∈b2→0≤y∧y < (v.now.ah.length:Int))
 (.loop (default:Sum ((List Int)) ((List Int))) (fun i3=>i3.2≤v.now.ah.length∧i3.1.length≤i3.2∧∀ y,y∈i3.1→0≤y∧y < (v.now.ah.length:Int)) (fun i3=>v.now.ah.length - i3.2) (([],0):(List Int) × Nat)
 (fun (i3:(List Int) × Nat)=>⟨[(9,ow 100002 i3.1),(25,iv (i3.2:Int))],[(100002,bg 3 1 bF i3.1)]⟩) fun i3 =>
 .lt 23 0 i3.2 v.now.ah.length
 (.r 6 (.p (bA (i3.2:Int) v.now.ah.length)) fun _ =>
 .r 7 ((l5 v (i3.2:Int)).c) fun x4 =>
 .br (x4 != part)
 (.nx 18 25 i3.2 (i3.1,i3.2+1))
 (.bt
 (.bind false (fun _=>True)
 (.br (((v.now.ah.getD i3.2 default).kind) == 0)
 (.fin (.inr (((v.now.ah.getD i3.2 default).kind) == 0)))
 (.fin (.inr (((v.now.ah.getD i3.2 default).kind) == 1))))
 (fun (b6:Bool)=>⟨[(41,bv b6)],[]⟩) fun b6 =>
 .br b6
 (.fin (.inr (true,b6,((v.now.ah.getD i3.2 default).kind) == 0)))
 (.br (((v.now.ah.getD i3.2 default).kind) == 2)
 (.r 15 (.wh ((decide ((i3.2:Int)≤cj))&&((dc .i64 ((v.now.ah.getD i3.2 default).flags) 2) == 0)) true ((aF aj (i3.2:Int)).c)) fun x7 =>
 .fin (.inr (((decide ((i3.2:Int)≤cj))&&((dc .i64 ((v.now.ah.getD i3.2 default).flags) 2) == 0))&&x7,b6,((v.now.ah.getD i3.2 default).kind) == 0)))
 (.r 10 ((aF i3.1 ((v.now.ah.getD i3.2 default).for_)).c) fun x8 =>
 .fin (.inr (x8,b6,((v.now.ah.getD i3.2 default).kind) == 0)))))
 (fun (b5:Bool × Bool × Bool)=>⟨[(12,bv b5.1),(41,bv b5.2.1),(42,bv b5.2.2)],[]⟩) fun b5 =>
 .br b5.1
 (.r 17 (.al (.o [.fc (fQ dr [(i3.2:Int)])]) (.al (.o [.fc (mV dr i3.1 [(i3.2:Int)])]) (.al (.t (dr.pB [(i3.2:Int)])) (.p (yw i3.1.length [(i3.2:Int)].length 8))))) fun _ =>
 .r 18 .z fun _ =>
 .wi 25 (aq ((i3.2:Int)+1)) ((i3.2+1:Nat):Int) <|
 .fin (.inr (i3.1++[(i3.2:Int)],i3.2+1)))
 (.nx 18 25 i3.2 (i3.1,i3.2+1))))
 (.fin (.inl (.inr i3.1))))
 (fun (b2:(List Int))=>⟨[(9,ow 100001 b2)],[(100001,bg 3 1 bF b2)]⟩) fun b2 =>
 .fin b2)
def bE v part cj aj:=(eQ v part cj aj).val
theorem ql (v:View) (part:Int) (cj:Int) (aj:List Int):(eQ v part cj aj).cC (fun (x:(List Int))=>x.length≤v.now.ah.length∧∀ y,y∈x→0≤y∧y < (v.now.ah.length:Int)):=by
 unfold eQ
 try simp only [l5,aF]
 exact B7
theorem pP (v:View) (part:Int) (cj:Int) (aj:List Int):(fun (x:(List Int))=>x.length≤v.now.ah.length∧∀ y,y∈x→0≤y∧y < (v.now.ah.length:Int)) (bE v part cj aj):=have h:=Sk.cZ _ (ql v part cj aj); h
theorem Al (v:View) (part:Int) (cj:Int) (aj:List Int) (hl:v.lead.length≠0) (hn:v.now.ah.length≤1000000):(eQ v part cj aj).aZ (fun _=>True):=by
 unfold eQ
 try simp only [l5,aF]
 exact mu
def nI v part cj aj:=kp tok mixed Tryz.func27 [av v.cells,iv part,iv cj,lv bF aj] (fun x=>lv bF x) false (bE v part cj aj) (u2 (Al v part cj aj)) (ql v part cj aj)
def uF (rv:View→Int→Int) (rp:View→Int→Prop) (rf:∀ (v:View) (sign:Int),rp v sign→fA Tryz.prog 61 [av v.cells,iv sign] [] (iv (rv v sign)) []) (v:View) (sign:Int):gV (Int):=⟨Tryz.prog,61,[av v.cells,iv sign],fun x=>iv x,true,rv v sign,rp v sign,rf v sign,fun _=>True,trivial⟩
def fS (rv:View→Int→Int) (rp:View→Int→Prop) (rf:∀ (v:View) (sign:Int),rp v sign→fA Tryz.prog 61 [av v.cells,iv sign] [] (iv (rv v sign)) []) (v:View) (sign:Int):Sk (Int) :=
 .r 1 (.p (bA sign v.now.ah.length)) fun _ =>
 .br ((((v.now.ah.getD sign.toNat default).kind) == 3)||(((v.now.ah.getD sign.toNat default).kind) == 4))
 (.r 3 ((uF rv rp rf v ((v.now.ah.getD sign.toNat default).for_)).c) fun x1 =>
 .fin x1)
 (.fin sign)
def bV:Nat→View→Int→Int
 | 0,_,_=>default
 | fu+1,v,sign=>(fS (bV fu) (fun _ _=>False) (fun _ _=>fun h=>h.elim) v sign).val
theorem qm (v:View) (h:v.ma):∀ (fu:Nat) (sign:Int),0≤sign→sign < (v.now.ah.length:Int)→sign.toNat < fu→0≤bV fu v sign∧bV fu v sign≤sign
 | 0,_,_,_,h3=>absurd h3 (by omega)
 | fu+1,s,h1,h2,h3=>by
  have e:bV (fu+1) v s=bif (((v.now.ah.getD s.toNat default).kind) == 3)||(((v.now.ah.getD s.toNat default).kind) == 4) then bV fu v ((v.now.ah.getD s.toNat default).for_) else s:=by kernel_rfl
  rw [e]
  cases hk:(((v.now.ah.getD s.toNat default).kind) == 3)||(((v.now.ah.getD s.toNat default).kind) == 4) with
  | false=>exact ⟨h1,Int.le_refl _⟩
  | true =>
   rw [cond_true]
   have:=h s.toNat (by omega) (by simpa using hk)
   have:=qm v h fu _ this.1 (by omega) (by omega)
   omega
theorem Dd (fu:Nat) (rf:∀ (v:View) (sign:Int),(sign.toNat+1)≤fu∧(v.ma)∧(0≤sign∧sign < v.now.ah.length)→fA Tryz.prog 61 [av v.cells,iv sign] [] (iv (bV fu v sign)) []) (v:View) (sign:Int) (hm:(sign.toNat+1)≤fu+1) (hv:v.ma) (hs:0≤sign∧sign < v.now.ah.length):(fS (bV fu) (fun v sign=>(sign.toNat+1)≤fu∧(v.ma)∧(0≤sign∧sign < v.now.ah.length)) rf v sign).aZ (fun _=>True):=by
 refine Sk.aU _ ?_
 unfold fS
 simp only [Sk.jb,Sk.aI,reduceCtorEq,ON,kk,kp,uF,maxLen]
 refine ⟨hs,fun _ hk=>?_⟩
 have:=hv sign.toNat (by omega) (by simpa using hk)
 exact ⟨by omega,hv,by omega,by omega⟩
theorem BS (fu:Nat) (rp:View→Int→Prop) (rf:∀ (v:View) (sign:Int),rp v sign→fA Tryz.prog 61 [av v.cells,iv sign] [] (iv (bV fu v sign)) []) (v:View) (sign:Int):(fS (bV fu) rp rf v sign).val=bV (fu+1) v sign:=by kernel_rfl
theorem BT (fu:Nat):∀ (v:View) (sign:Int),(sign.toNat+1)≤fu→v.ma→(0≤sign∧sign < v.now.ah.length)→fA Tryz.prog 61 [av v.cells,iv sign] [] (iv (bV fu v sign)) []:=by
 induction fu with
 | zero=>intro v sign hm h0 h1; exact absurd hm (by omega)
 | succ fu ih =>
  intro v sign hm h0 h1
  have h:fA Tryz.prog 61 [av v.cells,iv sign] [] (iv ((fS (bV fu) (fun v sign=>(sign.toNat+1)≤fu∧(v.ma)∧(0≤sign∧sign < v.now.ah.length)) (fun v sign h=>ih v sign h.1 h.2.1 h.2.2) v sign).val)) []:=fA.sk tok mixed (fun x=>iv x) (fun _=>[]) Tryz.func61 rfl (by kernel_rfl) 3000 (fS (bV fu) (fun v sign=>(sign.toNat+1)≤fu∧(v.ma)∧(0≤sign∧sign < v.now.ah.length)) (fun v sign h=>ih v sign h.1 h.2.1 h.2.2) v sign) (by kernel_rfl) (Dd fu _ v sign hm h0 h1)
  rw [BS] at h
  exact h
def bp (v:View) (sign:Int):Int:=bV ((sign.toNat+1)) v sign
theorem De (v:View) (sign:Int) (hv:v.ma) (hs:0≤sign∧sign < v.now.ah.length):fA Tryz.prog 61 [av v.cells,iv sign] [] (iv (bp v sign)) []:=BT _ v sign (Nat.le_refl _) hv hs
theorem Am (v:View) (sign:Int):(fun (x:Int)=>v.ma→0≤sign∧sign < (v.now.ah.length:Int)→0≤x∧x≤sign) (bp v sign):=by
 exact fun h hs=>qm v h _ sign hs.1 hs.2 (by omega)
def qa (v:View) (sign:Int):gV (Int):=⟨Tryz.prog,61,[av v.cells,iv sign],fun x=>iv x,true,bp v sign,(v.ma)∧(0≤sign∧sign < v.now.ah.length),fun h=>De v sign h.1 h.2,fun (x:Int)=>v.ma→0≤sign∧sign < (v.now.ah.length:Int)→0≤x∧x≤sign,Am v sign⟩
def gn (a:bC):Sk (Bool) :=
 .fin ((a.kind == 1)||(a.kind == 3))
def cN a:=(gn a).val
theorem nW (a:bC):cN a=((a.kind == 1)||(a.kind == 3)):=rfl
theorem wD (a:bC):(gn a).aZ (fun _=>True):=by
 unfold gn
 exact mO
def kx a:=kk tok mixed Tryz.func64 [av a.cells] (fun x=>bv x) true (gn a) (cN a) (u0 (wD a))
def dR (s:List bC):Sk (Int) :=
 .bind true (fun b1=>∀ q,q < s.length→cN (s.getD q default)=false)
 (.loop (default:Sum (Int) (Unit)) (fun i2=>∀ q,q < i2→cN (s.getD q default)=false) (fun i2=>s.length - i2) (0:Nat)
 (fun (i2:Nat)=>⟨[(8,iv (i2:Int))],[]⟩) fun i2 =>
 .lt 0 0 i2 s.length
 (.r 4 (.al (.p (bA (i2:Int) s.length)) ((kx (s.getD i2 default)).c)) fun x3 =>
 .br x3
 (.fin (.inl (.inl (i2:Int))))
 (.nx 6 8 i2 (i2+1)))
 (.fin (.inl (.inr ()))))
 (fun (_:Unit)=>⟨[],[]⟩) fun _ =>
 .fin (-1)
def za s:=(dR s).val
theorem uG (s:List bC):(dR s).cC (fun (x:Int)=>(x = -1∧∀ q,q < s.length→cN (s.getD q default)=false)∨(0≤x∧x < s.length∧cN (s.getD x.toNat default)=true∧∀ q,(q:Nat) < x.toNat→cN (s.getD q default)=false)):=by
 unfold dR
 try simp only [kx,nW]
 exact O3
theorem vE (s:List bC):(dR s).aZ (fun _=>True):=by
 unfold dR
 try simp only [kx,nW]
 exact wx
def jK s:=kp tok mixed Tryz.func112 [lv bC.cells s,.fn 64 []] (fun x=>iv x) true (za s) (u0 (vE s)) (uG s)
def cW (s:List bC):Sk (Bool) :=
 .r 1 ((jK s).c) fun x1 =>
 .fin (decide (x1≥0))
def dS s:=(cW s).val
theorem sf (s:List bC):(cW s).cC (fun (x:Bool)=>(x=true↔∃ q,q < s.length∧cN (s.getD q default)=true)):=by
 unfold cW
 try simp only [jK]
 exact B7
theorem sw (s:List bC):(cW s).aZ (fun _=>True):=by
 unfold cW
 try simp only [jK]
 exact mO
def ic s:=kp tok mixed Tryz.func63 [lv bC.cells s,.fn 64 []] (fun x=>bv x) true (dS s) (u0 (sw s)) (sf s)
structure Kept where
 shown:Int
 yD:Int
 Df:Int
 all:Int
 deriving Inhabited
def Kept.cells (c:Kept):List D:=[dI c.shown,dI c.yD,dI c.Df,dI c.all]
structure en where
 r:ai
 forum:Int
 f:ar
 sign:Int
 day:Int
 due:Int
 deriving Inhabited
def en.cells (c:en):List D:=c.r.cells++[dI c.forum]++c.f.cells++[dI c.sign,dI c.day,dI c.due]
def en.Kv (v:en):Prop:=0≤v.f.aH.B8∧v.f.aH.B8 < v.r.aK.length
def gQ (r:ai) (forum:Int) (f:ar) (sign:Int) (day:Int):Sk (en) :=
 .r 1 (.dep ((bT f day).c) fun _=>(cy r forum f day).c) fun p3 =>
 .fin ({ r:=r,forum:=forum,f:=p3.1,sign:=sign,day:=day,due:=p3.2 }:en)
def Hs r forum f sign day:=(gQ r forum f sign day).val
theorem Ao (r:ai) (forum:Int) (f:ar) (sign:Int) (day:Int):(gQ r forum f sign day).cC (fun (x:en)=>x.r=r∧x.f=aB f day∧x.sign=sign):=by
 unfold gQ
 try simp only [cy,bT,ar.Small,ai.Small,ai.ca]
 exact B7
theorem BU (r:ai) (forum:Int) (f:ar) (sign:Int) (day:Int) (bm:f.Small) (bM:r.ca) (bh:r.Small):(gQ r forum f sign day).aZ (fun _=>True):=by
 simp only [ar.Small,ai.Small,ai.ca] at bm
 simp only [ar.Small,ai.Small,ai.ca] at bM
 simp only [ar.Small,ai.Small,ai.ca] at bh
 unfold gQ
 try simp only [cy,bT,ar.Small,ai.Small,ai.ca]
 exact mu
def uH r forum f sign day:=kp tok mixed Tryz.func113 [av r.cells,iv forum,av f.cells,iv sign,iv day] (fun x=>av x.cells) false (Hs r forum f sign day) (u3 (BU r forum f sign day)) (Ao r forum f sign day)
def fp (v:en) (kind:Int) (from_:Int):Sk (Int) :=
 .bt
 (.loop (default:Sum (Int) (Unit)) (fun i2=>i2≤v.f.au.length) (fun i2=>v.f.au.length - i2) (0:Nat)
 (fun (i2:Nat)=>⟨[(13,iv (i2:Int))],[]⟩) fun i2 =>
 .lt 11 0 i2 v.f.au.length
 (.r 3 (.p (bA (i2:Int) v.f.au.length)) fun _ =>
 .br (((((v.f.au.getD i2 default).kind) == kind)&&(((v.f.au.getD i2 default).bP) == v.f.aH.rB))&&(decide (((v.f.au.getD i2 default).day)≥from_)))
 (.fin (.inl (.inl ((v.f.au.getD i2 default).day))))
 (.nx 6 13 i2 (i2+1)))
 (.fin (.inl (.inr ()))))
 (fun (_:Unit)=>⟨[],[]⟩) fun _ =>
 .fin (-1)
def xY v kind from_:=(fp v kind from_).val
theorem uI (v:en) (kind:Int) (from_:Int):(fp v kind from_).aZ (fun _=>True):=by
 unfold fp
 exact mu
def dT v kind from_:=kk tok mixed Tryz.func150 [av v.cells,iv kind,iv from_] (fun x=>iv x) true (fp v kind from_) (xY v kind from_) (u0 (uI v kind from_))
structure s6 where
 known:Bool
 last:Int
 deriving Inhabited
def s6.cells (c:s6):List D:=[dB c.known,dI c.last]
def fH (v:en):Sk (s6) :=
 .r 1 ((mf v.r v.forum 7 v.f v.day).c) fun x1 =>
 .br (x1.err != 0)
 (.fin ({ known:=true,last:=9223372036854775807 }:s6))
 (.br (!x1.cell.known)
 (.fin ({ known:=false,last:=0 }:s6))
 (.br (decide ((aq (v.f.aH.day+x1.cell.n)) > 100000))
 (.fin ({ known:=true,last:=9223372036854775807 }:s6))
 (.fin ({ known:=true,last:=aq (v.f.aH.day+x1.cell.n) }:s6))))
def zb v:=(fH v).val
theorem vF (v:en) (fO:v.f.Small) (ku:v.r.ca) (jc:v.r.Small):(fH v).aZ (fun _=>True):=by
 unfold fH
 try simp only [mf]
 exact mu
def jL v:=kk tok mixed Tryz.func151 [av v.cells] (fun x=>av x.cells) true (fH v) (zb v) (u3 (vF v))
def e9 (v:en) (on:Int) (t:s6):Sk (Int) :=
 .br (!t.known)
 (.fin 2)
 (.br ((on != (-1))&&(decide (on≤t.last)))
 (.fin 1)
 (.br ((on != (-1))||(decide (v.day > t.last)))
 (.fin 0)
 (.fin 2)))
def wE v on t:=(e9 v on t).val
theorem tG (v:en) (on:Int) (t:s6):(e9 v on t).aZ (fun _=>True):=by
 unfold e9
 exact mO
def fq v on t:=kk tok mixed Tryz.func149 [av v.cells,iv on,av t.cells] (fun x=>iv x) true (e9 v on t) (wE v on t) (u0 (tG v on t))
def ep (v:en):Sk (Int) :=
 .r 1 ((dT v 1 0).c) fun x1 =>
 .br (decide (x1 > v.due))
 (.fin (-1))
 (.fin x1)
def vG v:=(ep v).val
theorem sx (v:en):(ep v).aZ (fun _=>True):=by
 unfold ep
 try simp only [dT]
 exact mO
def fa v:=kk tok mixed Tryz.func152 [av v.cells] (fun x=>iv x) true (ep v) (vG v) (u0 (sx v))
def k6 (l:List Int):Sk (Int) :=
 .r 1 ((aF l 0).c) fun x1 =>
 .br x1
 (.fin 0)
 (.r 3 ((aF l 2).c) fun x2 =>
 .br x2
 (.fin 2)
 (.fin 1))
def Jd l:=(k6 l).val
theorem Dg (l:List Int):(k6 l).aZ (fun _=>True):=by
 unfold k6
 try simp only [aF]
 exact mO
def jB l:=kk tok mixed Tryz.func119 [lv bF l] (fun x=>iv x) true (k6 l) (Jd l) (u0 (Dg l))
def fw (v:en) (aN:Int):Sk (tn) :=
 .r 1 ((gz v.r v.forum aN ({ file:=v.f,sign:=v.sign,gZ:=v.sign,im:=(-1),due:=v.due,day:=v.day }:fj)).c) fun x1 =>
 .fin x1
def xZ v aN:=(fw v aN).val
theorem uJ (v:en) (aN:Int) (fO:v.f.Small) (ku:v.r.ca) (jc:v.r.Small):(fw v aN).aZ (fun _=>True):=by
 unfold fw
 try simp only [gz]
 exact mu
def bK v aN:=kk tok mixed Tryz.func116 [av v.cells,iv aN] (fun x=>av x.cells) false (fw v aN) (xZ v aN) (u3 (uJ v aN))
def k7 (c_:gX) (day:Int) (n:Int):Sk (Int × Int) :=
 .r 1 ((eK day).c) fun x1 =>
 .br (((!x1)||(decide (n < 0)))||(decide (n > 20000)))
 (.fin (0,3))
 (.bt
 (.loop (default:Sum (Int × Int) (Int)) (fun i3=>0≤i3.2∧i3.2≤n∧0≤i3.1∧i3.1≤100000) (fun i3=>(n - i3.2).toNat) ((day,0):Int × Int)
 (fun (i3:Int × Int)=>⟨[(1,iv i3.1),(22,iv i3.2)],[]⟩) fun i3 =>
 .br (decide (i3.2 < n))
 (.r 5 ((jz c_ (aq (i3.1+1))).c) fun x4 =>
 .br (x4.2 != 0)
 (.fin (.inl (.inl (0,x4.2))))
 (.fin (.inr (x4.1,aq (i3.2+1)))))
 (.fin (.inl (.inr i3.1))))
 (fun (b2:Int)=>⟨[(1,iv b2)],[]⟩) fun b2 =>
 .fin (b2,0))
def Je c_ day n:=(k7 c_ day n).val
theorem Dh (c_:gX) (day:Int) (n:Int):(k7 c_ day n).aZ (fun _=>True):=by
 unfold k7
 try simp only [jz,eK,ny]
 exact wx
def wm c_ day n:=kk tok mixed Tryz.func194 [av c_.cells,iv day,iv n] (fun x=>.eD [iv x.1,iv x.2]) true (k7 c_ day n) (Je c_ day n) (u0 (Dh c_ day n))
def fI (v:en) (said:tn) (from_:Int):Sk (s6) :=
 .br (said.err != 0)
 (.fin ({ known:=true,last:=9223372036854775807 }:s6))
 (.br (!said.cell.known)
 (.fin ({ known:=false,last:=0 }:s6))
 (.r 5 (.al (.p (bA v.f.aH.B8 v.r.aK.length)) ((wm (v.r.aK.getD v.f.aH.B8.toNat default) from_ said.cell.n).c)) fun x1 =>
 .br (x1.2 != 0)
 (.fin ({ known:=true,last:=9223372036854775807 }:s6))
 (.fin ({ known:=true,last:=x1.1 }:s6))))
def zc v said from_:=(fI v said from_).val
theorem vH (v:en) (said:tn) (from_:Int) (hp:v.Kv):(fI v said from_).aZ (fun _=>True):=by
 unfold fI
 try simp only [wm]
 exact mu
def cb v said from_:=kk tok mixed Tryz.func153 [av v.cells,av said.cells,iv from_] (fun x=>av x.cells) true (fI v said from_) (zc v said from_) (vH v said from_)
def dC (v:en):Sk (Int) :=
 .br (v.f.aH.cU.kind == 0)
 (.r 3 (.dep ((dT v 2 0).c) fun x1=>.dep ((jL v).c) fun x2=>(fq v x1 x2).c) fun p4 =>
 .fin p4.2.2)
 (.bind false (fun _=>True)
 (.br (v.f.aH.cU.kind == 1)
 (.r 6 (.dep ((o9 v.f).c) fun x6=>.dep ((jL v).c) fun x7=>(fq v x6 x7).c) fun p9 =>
 .fin (.inr p9.2.2))
 (.fin (.inr 1)))
 (fun (b5:Int)=>⟨[(4,iv b5)],[]⟩) fun b5 =>
 .r 7 ((fa v).c) fun Mk =>
 .br (Mk != (-1))
 (.fin b5)
 (.br (v.due == (-1))
 (.r 10 (.al (.o [.fc (fQ dr [b5,2])]) ((jB [b5,2]).c)) fun YM =>
 .fin YM)
 (.r 11 (.dep ((dT v 2 v.due).c) fun Wz=>.dep ((bK v 10).c) fun GJ=>.dep ((cb v GJ v.due).c) fun x14=>.dep ((fq v Wz x14).c) fun x15=>.al (.o [.fc (fQ dr [b5,x15])]) ((jB [b5,x15]).c)) fun p17 =>
 .fin p17.2.2.2.2)))
def tH v:=(dC v).val
theorem qJ (v:en) (fO:v.f.Small) (ku:v.r.ca) (jc:v.r.Small) (Kw:v.Kv):(dC v).aZ (fun _=>True):=by
 refine Sk.aU _ ?_
 unfold dC
 simp (maxSteps:=2000000) only [Sk.jb,Sk.aI,reduceCtorEq,ON,kk,kp,jB,bK,cb,dT,fa,jL,fq,o9,maxLen]
 all_goals (repeat' first | assumption | (apply And.intro) | (intro h))
 all_goals first | trivial | assumption | omega | ((try simp only [LN] at *) <;> first | omega | (refine (aD ?_ ?_).trans ?_ <;> omega) | (simp (disch:=omega) only [aD] at *; omega) | (grind) | (simp_all; done) | (simp_all; omega))
def ky v:=kk tok mixed Tryz.func114 [av v.cells] (fun x=>iv x) true (dC v) (tH v) (u4 (qJ v))
def dE (v:en):Sk (Int) :=
 .r 1 ((fa v).c) fun x1 =>
 .br (x1 != (-1))
 (.fin x1)
 (.fin v.due)
def tI v:=(dE v).val
theorem qK (v:en):(dE v).aZ (fun _=>True):=by
 unfold dE
 try simp only [fa]
 exact mO
def dU v:=kk tok mixed Tryz.func154 [av v.cells] (fun x=>iv x) true (dE v) (tI v) (u0 (qK v))
def dF (v:en):Sk (Int) :=
 .r 1 ((dU v).c) fun x1 =>
 .r 2 (.dep ((bK v 10).c) fun x2=>(cb v x2 x1).c) fun Su =>
 .br (!Su.2.known)
 (.fin 2)
 (.bind false (fun _=>True)
 (.br (decide (v.day≤Su.2.last))
 (.fin (.inr 2))
 (.fin (.inr 0)))
 (fun (b4:Int)=>⟨[(5,iv b4)],[]⟩) fun b4 =>
 .bt
 (.loop (default:Sum (Int) (Int)) (fun i6=>i6.2≤v.f.au.length) (fun i6=>v.f.au.length - i6.2) ((b4,0):Int × Nat)
 (fun (i6:Int × Nat)=>⟨[(5,iv i6.1),(28,iv (i6.2:Int))],[]⟩) fun i6 =>
 .lt 26 0 i6.2 v.f.au.length
 (.r 10 (.p (bA (i6.2:Int) v.f.au.length)) fun _ =>
 .br ((((((v.f.au.getD i6.2 default).kind) != 4)||(((v.f.au.getD i6.2 default).bP) != v.f.aH.rB))||(decide (((v.f.au.getD i6.2 default).day) < x1)))||(decide (((v.f.au.getD i6.2 default).day) > Su.2.last)))
 (.nx 19 28 i6.2 (i6.1,i6.2+1))
 (.bind false (fun _=>True)
 (.br (((v.f.au.getD i6.2 default).form) == 1)
 (.r 14 (.dep ((bK v 9).c) fun x8=>(fk x8).c) fun PV =>
 .fin (.inr PV.2))
 (.fin (.inr 1)))
 (fun (b7:Int)=>⟨[(8,iv b7)],[]⟩) fun b7 =>
 .br (b7 == 1)
 (.fin (.inl (.inl 1)))
 (.br (b7 == 2)
 (.nx 19 28 i6.2 (2,i6.2+1))
 (.nx 19 28 i6.2 (i6.1,i6.2+1)))))
 (.fin (.inl (.inr i6.1))))
 (fun (b5:Int)=>⟨[(5,iv b5)],[]⟩) fun b5 =>
 .fin b5)
def tJ v:=(dF v).val
theorem qL (v:en) (fO:v.f.Small) (ku:v.r.ca) (jc:v.r.Small) (Kw:v.Kv):(dF v).aZ (fun _=>True):=by
 unfold dF
 try simp only [fk,bK,cb,dU]
 exact mu
def kz v:=kk tok mixed Tryz.func117 [av v.cells] (fun x=>iv x) true (dF v) (tJ v) (u4 (qL v))
def iA (said:tn) (answer:Int):Sk (Int) :=
 .r 1 ((fk said).c) fun x1 =>
 .br ((x1 == 0)||(answer == 1))
 (.fin 1)
 (.br (x1 == 2)
 (.fin 2)
 (.fin answer))
def Di said answer:=(iA said answer).val
theorem zd (said:tn) (answer:Int):(iA said answer).aZ (fun _=>True):=by
 unfold iA
 try simp only [fk]
 exact mO
def mi said answer:=kk tok mixed Tryz.func115 [av said.cells,iv answer] (fun x=>iv x) true (iA said answer) (Di said answer) (u0 (zd said answer))
def dV (v:en):Sk (Int) :=
 .r 1 ((dU v).c) fun x1 =>
 .r 2 ((bK v 12).c) fun x2 =>
 .r 3 ((cb v x2 x1).c) fun x3 =>
 .br (!x3.known)
 (.fin 2)
 (.bt
 (.loop (default:Sum (Int) (Int)) (fun i5=>i5.2.2≤v.f.au.length∧i5.2.1.length≤i5.2.2) (fun i5=>v.f.au.length - i5.2.2) ((x3.last,[],0):Int × (List bC) × Nat)
 (fun (i5:Int × (List bC) × Nat)=>⟨[(6,iv i5.1),(7,ow 100005 i5.2.1),(30,iv (i5.2.2:Int))],[(100005,bg 62 9 bC.cells i5.2.1)]⟩) fun i5 =>
 .lt 28 0 i5.2.2 v.f.au.length
 (.bind true (fun b6=>b6.2.1.length≤i5.2.1.length+1)
 (.r 10 (.p (bA (i5.2.2:Int) v.f.au.length)) fun _ =>
 .br (((v.f.au.getD i5.2.2 default).kind) != 5)
 (.fin (.inr (i5.1,i5.2.1,v.f.au.getD i5.2.2 default,(v.f.au.getD i5.2.2 default).kind,((v.f.au.getD i5.2.2 default).kind) != 5)))
 (.bt
 (.loop (default:Sum (Sum (Sum (Sum (Int) (Int)) (Int × (List bC) × Nat)) (Int × (List bC) × bC × Int × Bool)) (Bool × Int × Bool)) (fun i8=>i8.2≤i5.2.1.length) (fun i8=>i5.2.1.length - i8.2) (((decide (((v.f.au.getD i5.2.2 default).day)≥x1))&&(decide (((v.f.au.getD i5.2.2 default).day)≤x3.last)),0):Bool × Nat)
 (fun (i8:Bool × Nat)=>⟨[(10,bv i8.1),(50,iv (i8.2:Int))],[]⟩) fun i8 =>
 .lt 7 0 i8.2 i5.2.1.length
 (.r 15 (.al (.p (bA (i8.2:Int) i5.2.1.length)) (.p (i8.2 < i5.2.1.length))) fun _ =>
 .r 16 (.wh i8.1 false (.wh (((i5.2.1.getD i8.2 default).bP) == ((v.f.au.getD i5.2.2 default).dY)) true ((cb v x2 ((i5.2.1.getD i8.2 default).day)).c))) fun x9 =>
 .r 17 .z fun _ =>
 .wi 50 (aq ((i8.2:Int)+1)) ((i8.2+1:Nat):Int) <|
 .fin (.inr (i8.1||((((i5.2.1.getD i8.2 default).bP) == ((v.f.au.getD i5.2.2 default).dY))&&(decide (((v.f.au.getD i5.2.2 default).day)≤x9.last))),i8.2+1)))
 (.fin (.inl (.inr (i8.1,(i8.2:Int),decide ((i8.2:Int) < ((i5.2.1.length:Nat):Int)))))))
 (fun (b7:Bool × Int × Bool)=>⟨[(10,bv b7.1),(50,iv b7.2.1),(51,bv b7.2.2)],[]⟩) fun b7 =>
 .br (!b7.1)
 (.fin (.inr (i5.1,i5.2.1,v.f.au.getD i5.2.2 default,(v.f.au.getD i5.2.2 default).kind,((v.f.au.getD i5.2.2 default).kind) != 5)))
 (.r 19 (.p (bA v.sign v.f.ah.length)) fun _ =>
 .br (((v.f.au.getD i5.2.2 default).bP) == ((v.f.ah.getD v.sign.toNat default).dY))
 (.fin (.inl (.inl (.inl 1))))
 (.r 21 (.al (.o [.fc (fQ bC.E [v.f.au.getD i5.2.2 default])]) (.al (.o [.fc (mV bC.E i5.2.1 [v.f.au.getD i5.2.2 default])]) (.al (.t (bC.E.pB [v.f.au.getD i5.2.2 default])) (.p (yw i5.2.1.length [v.f.au.getD i5.2.2 default].length 72))))) fun _ =>
 .r 22 ((cb v x2 ((v.f.au.getD i5.2.2 default).day)).c) fun Mk =>
 .fin (.inr (bL i5.1 Mk.last,i5.2.1++[v.f.au.getD i5.2.2 default],v.f.au.getD i5.2.2 default,(v.f.au.getD i5.2.2 default).kind,((v.f.au.getD i5.2.2 default).kind) != 5))))))
 (fun (b6:Int × (List bC) × bC × Int × Bool)=>⟨[(6,iv b6.1),(7,ow 100007 b6.2.1),(33,av b6.2.2.1.cells),(35,iv b6.2.2.2.1),(36,bv b6.2.2.2.2)],[(100007,bg 62 9 bC.cells b6.2.1)]⟩) fun b6 =>
 .nx 23 30 i5.2.2 (b6.1,b6.2.1,i5.2.2+1))
 (.fin (.inl (.inr i5.1))))
 (fun (b4:Int)=>⟨[(6,iv b4)],[]⟩) fun b4 =>
 .br (decide (v.day > b4))
 (.fin 0)
 (.fin 2))
def uK v:=(dV v).val
theorem sh (v:en) (hs:0≤v.sign∧v.sign < (v.f.ah.length:Int)) (fO:v.f.Small) (ku:v.r.ca) (jc:v.r.Small) (Kw:v.Kv):(dV v).aZ (fun _=>True):=by
 refine Sk.aU _ ?_
 unfold dV
 simp only [Sk.jb,Sk.aI,reduceCtorEq,ON,kk,kp,bK,cb,dU,maxLen]
 have hS1:=fO.2.2.1
 all_goals exact okT
def lg v:=kk tok mixed Tryz.func118 [av v.cells] (fun x=>iv x) true (dV v) (uK v) (u5 (sh v))
def ka (r:ai) (forum:Int) (f:ar) (sign:Int) (day:Int):Sk (Kept) :=
 .r 1 ((uH r forum f sign day).c) fun x1 =>
 .br ((decide (sign < 0))||(decide (sign≥((x1.f.ah.length:Nat):Int))))
 (.fin ({ shown:=0,yD:=0,Df:=0,all:=0 }:Kept))
 (.r 5 ((ky x1).c) fun x2 =>
 .bind false (fun _=>True)
 (.br (x1.due != (-1))
 (.r 7 (.dep ((bK x1 8).c) fun x4=>.dep ((kz x1).c) fun x5=>(mi x4 x5).c) fun Su =>
 .r 8 (.dep ((bK x1 11).c) fun x7=>.dep ((lg x1).c) fun x8=>(mi x7 x8).c) fun PV =>
 .fin (.inr ({ shown:=x2,yD:=Su.2.2,Df:=PV.2.2,all:=0 }:Kept)))
 (.fin (.inr ({ shown:=x2,yD:=2,Df:=2,all:=0 }:Kept))))
 (fun (b3:Kept)=>⟨[],[(12,.box (b3.cells.map .d))]⟩) fun b3 =>
 .r 9 (.al (.o [.fc (fQ dr [b3.shown,b3.yD,b3.Df])]) ((jB [b3.shown,b3.yD,b3.Df]).c)) fun Wz =>
 .fin ({ b3 with all:=Wz }))
def yb r forum f sign day:=(ka r forum f sign day).val
theorem BV (r:ai) (forum:Int) (f:ar) (sign:Int) (day:Int) (hF:bX r f) (bm:f.Small) (bM:r.ca) (bh:r.Small):(ka r forum f sign day).aZ (fun _=>True):=by
 refine Sk.aU _ ?_
 unfold ka
 simp only [Sk.jb,Sk.aI,reduceCtorEq,ON,kk,kp,jB,uH,mi,bK,lg,ky,kz,maxLen]
 refine ⟨⟨bm,bM,bh⟩,fun x _ hx hc=>?_⟩
 have hS:x.f.Small:=by rw [hx.2.1]; exact xA bm day
 have hB:x.r.ca:=by rw [hx.1]; exact bM
 have hR:x.r.Small:=by rw [hx.1]; exact bh
 have hp:x.Kv:=by unfold en.Kv; rw [hx.1,hx.2.1,N5]; exact hF.1.2.1
 have hs:0≤x.sign∧x.sign < (x.f.ah.length:Int):=by rw [hx.2.2]; simp only [LN] at hc; omega
 all_goals exact okT
def oI r forum f sign day:=kk tok mixed Tryz.func65 [av r.cells,iv forum,av f.cells,iv sign,iv day] (fun x=>av x.cells) true (ka r forum f sign day) (yb r forum f sign day) (u4 (BV r forum f sign day))
theorem BW {d:Array Int} {n:Nat} (hs:∀ i j,i≤j→j < n→d[i]!≤d[j]!):∀ m,m≤n→(Lib.compactUpTo d m).Pairwise (· < ·)∧∀ x,x∈Lib.compactUpTo d m↔∃ j,j < m∧d[j]! = x
 | 0,_=>by simp [Lib.compactUpTo]
 | m+1,hm=>by
  obtain ⟨h1,h2⟩:=BW hs m (by omega)
  rw [Lib.compactUpTo_succ]
  by_cases hk:Lib.keeps d m=true
  ·rw [if_pos hk]
   refine ⟨List.pairwise_append.2 ⟨h1,by simp,fun a ha b hb=>?_⟩,fun x=>?_⟩
   ·simp only [List.mem_singleton] at hb
    subst hb
    obtain ⟨j,hj,rfl⟩:=(h2 a).1 ha
    have h3:=hs j (m - 1) (by omega) (by omega)
    have h4:=hs (m - 1) m (by omega) (by omega)
    simp only [Lib.keeps,decide_eq_true_eq] at hk
    rcases hk with hk | hk
    ·omega
    ·omega
   ·rw [List.mem_append,h2,List.mem_singleton]
    constructor
    ·rintro (⟨j,hj,rfl⟩ | rfl)
     ·exact ⟨j,by omega,rfl⟩
     ·exact ⟨m,by omega,rfl⟩
    ·rintro ⟨j,hj,rfl⟩
     by_cases e:j=m
     ·subst e; exact .inr rfl
     ·exact .inl ⟨j,by omega,rfl⟩
  ·rw [if_neg hk,List.append_nil]
   refine ⟨h1,fun x=>(h2 x).trans ?_⟩
   constructor
   ·rintro ⟨j,hj,rfl⟩
    exact ⟨j,by omega,rfl⟩
   ·rintro ⟨j,hj,rfl⟩
    by_cases e:j=m
    ·subst e
     simp only [Lib.keeps,decide_eq_true_eq,not_or] at hk
     have:¬ d[j]!≠d[j - 1]!:=hk.2
     exact ⟨j - 1,by omega,by omega⟩
    ·exact ⟨j,by omega,rfl⟩
theorem DT {β Y:Type} {γ:Type} (sg:γ→List β) (se:Y→β) {δ:Type} (sd:δ→List β) {f:γ→Y→δ ⊕ γ}:∀ (l:List Y) (s:γ),(∀ s y,match f s y with | .inl e=>sd e=sg s | .inr s'=>sg s'=sg s++[se y]) →
  ∃ k,(match mS f l s with | .inl e=>sd e | .inr s'=>sg s')=sg s++(l.take k).map se
 | [],s,_=>⟨0,by simp [mS]⟩
 | y :: r,s,h=>by
  have h1:=h s y
  simp only [mS]
  cases e:f s y with
  | inl b=>rw [e] at h1; exact ⟨0,by simpa using h1⟩
  | inr s' =>
   rw [e] at h1
   obtain ⟨k,hk⟩:=DT sg se sd r s' h
   refine ⟨k+1,?_⟩
   rw [hk,h1]
   simp
theorem Qx (f:ar) (part day:Int):∃ k,(sZ f part day).ah=((bz f day part).take k).map (·.1):=by
 unfold sZ iP
 dsimp +instances only [Sk.pC,Sk.rq,Sk.vj,Sk.oe,Sk.ue,Sk.xh,Sk.jR,Sk.UB,gV.Kb,kk,kp,aY.zU,iu,gN,eZ,pc]
 obtain ⟨k,hk⟩:=DT (fun s:List Int × Int × Bool × Int × List Int=>s.1) (fun y:Int × Sign=>y.1) (fun e:List Int × Int × Int × Bool × Int × List Int=>e.1)
  (f:=fun s y=>bif (!s.2.2.1)&&(y.2.dY != s.2.1) then .inl (s.1,s.2.1,y.1,s.2.2.1,s.2.2.2.1,s.2.2.2.2) else bif (gM f day).2&&decide (y.2.day > (gM f day).1) then .inr (s.1++[y.1],y.2.bP,y.2.bP == (-1),xU s.2.2.2.1 y.2.flags,s.2.2.2.2++[y.1]) else .inr (s.1++[y.1],y.2.bP,y.2.bP == (-1),xU s.2.2.2.1 y.2.flags,s.2.2.2.2))
  (bz f day part) ([],f.aH.bO,f.aH.bO == (-1),0,[]) (fun s y=>by
   cases (!s.2.2.1)&&(y.2.dY != s.2.1)
   ·cases (gM f day).2&&decide (y.2.day > (gM f day).1) <;> rfl
   ·rfl)
 refine ⟨k,?_⟩
 rw [List.nil_append] at hk
 rw [← hk]
 generalize hr:mS _ _ _=r
 cases r <;> rfl
theorem SQ {v:View} {part y:Int} (h:y∈az v part):0≤y∧y < v.all.ah.length∧(v.all.ah.getD y.toNat default).kind=2∧(v.all.ah.getD y.toNat default).part=part∧(v.all.ah.getD y.toNat default).day≤v.day∧gp (dQ v.all v.day) y false=false:=by
 have e:az v part=(sZ v.all part v.day).ah:=rfl
 obtain ⟨k,hk⟩:=Qx v.all part v.day
 rw [e,hk] at h
 obtain ⟨z,hz,rfl⟩:=List.mem_map.1 h
 obtain ⟨i,hi⟩:=List.getElem?_of_mem ((List.take_sublist _ _).subset hz)
 have:=Hp hi
 rw [← this.2.2.2.1]
 exact ⟨this.2.1,this.2.2.1,this.2.2.2.2⟩
theorem DU (c:fD) (last:Int):∀ (aj:List Int) (o z:mI),z∈kZ c last aj o→(z.sign=o.sign∧z.jq=o.jq∨z.sign∈aj∧z.jq=(c.view.now.ah.getD z.sign.toNat default).bP)∧(z.state=2∨z.state=o.state)
 | [],o,z,h=>by
  simp only [kZ,List.mem_singleton] at h
  subst h
  exact ⟨.inl ⟨rfl,rfl⟩,.inr rfl⟩
 | l :: r,o,z,h=>by
  simp only [kZ] at h
  cases h0:cp c l last == 0 with
  | true =>
   rw [h0,cond_true,List.mem_singleton] at h
   subst h
   exact ⟨.inl ⟨rfl,rfl⟩,.inr rfl⟩
  | false =>
   rw [h0,cond_false] at h
   have ih:∀ o',o'.sign=l→o'.jq=(c.view.now.ah.getD l.toNat default).bP→(o'.state=2∨o'.state=o.state)→z∈kZ c last r o'→(z.sign=o.sign∧z.jq=o.jq∨z.sign∈l :: r∧z.jq=(c.view.now.ah.getD z.sign.toNat default).bP)∧(z.state=2∨z.state=o.state):=by
    intro o' e1 e2 e3 hz
    obtain ⟨h1,h2⟩:=DU c last r o' z hz
    refine ⟨.inr ?_,?_⟩
    ·rcases h1 with ⟨h1,h3⟩ | ⟨h1,h3⟩
     ·rw [h1,e1]; exact ⟨by simp,by rw [h3,e2]⟩
     ·exact ⟨by simp [h1],h3⟩
    ·rcases h2 with h2 | h2
     ·exact .inl h2
     ·rw [h2]; exact e3
   cases h2:cp c l last == 2 with
   | true =>
    rw [h2,cond_true] at h
    rcases List.mem_cons.1 h with rfl | h
    ·exact ⟨.inl ⟨rfl,rfl⟩,.inl rfl⟩
    ·exact ih _ rfl rfl (.inl rfl) h
   | false =>
    rw [h2,cond_false] at h
    exact ih { o with jq:=(c.view.now.ah.getD l.toNat default).bP,sign:=l } rfl rfl (.inr rfl) h
theorem Qy {c:fD} {aj:List Int} {z:mI} (h:z∈bo c aj):(z.sign = -1∧z.jq=c.view.now.aH.bO∨z.sign∈aj∧z.jq=(c.view.now.ah.getD z.sign.toNat default).bP)∧(z.state=1∨z.state=2):=by
 have:=DU c _ aj _ z h
 exact ⟨this.1,this.2.symm⟩
theorem yc (c:fD) (last:Int):∀ (aj:List Int) (o:mI),(kZ c last aj o).length≤aj.length+1
 | [],o=>by simp [kZ]
 | l :: r,o=>by
  simp only [kZ]
  cases cp c l last == 0 with
  | true=>simp
  | false =>
   rw [cond_false]
   cases cp c l last == 2 with
   | true=>rw [cond_true,List.length_cons,List.length_cons]; have:=yc c last r { jq:=(c.view.now.ah.getD l.toNat default).bP,sign:=l,state:=2 }; omega
   | false=>rw [cond_false,List.length_cons]; have:=yc c last r { o with jq:=(c.view.now.ah.getD l.toNat default).bP,sign:=l }; omega
theorem Ap (c:fD) (aj:List Int):(bo c aj).length≤aj.length+1:=yc c _ aj _
def SR (v:View) (cj:Int) (aj l:List Int) (i:Nat):Bool :=
 bif ((v.now.ah.getD i default).kind == 0)||((v.now.ah.getD i default).kind == 1) then true else
 bif (v.now.ah.getD i default).kind == 2 then ((decide (((i:Nat):Int)≤cj))&&((dc .i64 ((v.now.ah.getD i default).flags) 2) == 0))&&bW aj ((i:Nat):Int)
 else bW l ((v.now.ah.getD i default).for_)
def Aq (v:View) (part cj:Int) (aj:List Int) (i:Nat) (l:List Int):List Int :=
 bif ib v ((i:Nat):Int) != part then l else bif SR v cj aj l i then l++[((i:Nat):Int)] else l
def uL (v:View) (part cj:Int) (aj:List Int):Nat→List Int
 | 0=>[]
 | n+1=>Aq v part cj aj n (uL v part cj aj n)
theorem Fl {α ι δ:Type} (n:Nat) (h:Nat→α) (pack:α→Nat→ι) {f:ι→δ ⊕ ι} {d:δ} (e:α→δ) (hs:∀ i,i < n→f (pack (h i) i)=.inr (pack (h (i+1)) (i+1))) (he:f (pack (h n) n)=.inl (e (h n))) {m:Nat} (hm:n < m):iter f d m (pack (h 0) 0)=e (h n):=by
 have key:∀ k,k≤n→∀ m,k < m→iter f d m (pack (h (n - k)) (n - k))=e (h n):=by
  intro k
  induction k with
  | zero =>
   intro _ m hm
   obtain ⟨m,rfl⟩:∃ q,m=q+1:=⟨m - 1,by omega⟩
   simp only [iter,Nat.sub_zero,he]
  | succ k ih =>
   intro hk m hm
   obtain ⟨m,rfl⟩:∃ q,m=q+1:=⟨m - 1,by omega⟩
   simp only [iter,hs (n - (k+1)) (by omega)]
   rw [show n - (k+1)+1=n - k by omega]
   exact ih (by omega) m (by omega)
 have:=key n (Nat.le_refl _) m hm
 rwa [Nat.sub_self] at this
theorem SS (v:View) (part cj:Int) (aj:List Int):bE v part cj aj=bif (cj != (-1))&&(!(bW aj cj)) then [] else uL v part cj aj v.now.ah.length:=by
 unfold bE eQ
 dsimp +instances only [Sk.pC,Sk.rq,Sk.vj,Sk.oe,Sk.ue,Sk.xh,Sk.jR,gV.Kb,kk,kp,aY.zU,aY.YF,aF,l5]
 cases (cj != (-1))&&(!(bW aj cj)) with
 | true=>rfl
 | false =>
  refine congrArg (fun q=>ki q fun b=>b) (Fl v.now.ah.length (uL v part cj aj) (fun s i=>(s,i)) (fun s=>Sum.inr s) (fun i hi=>?_) ?_ (by omega))
  ·dsimp only
   rw [decide_eq_true (by omega),cond_true]
   show _=Sum.inr (Aq v part cj aj i (uL v part cj aj i),i+1)
   unfold Aq
   cases ib v ((i:Nat):Int) != part with
   | true=>rfl
   | false =>
    unfold SR
    rw [cond_false,cond_false]
    cases (v.now.ah.getD i default).kind == 0 with
    | true=>rfl
    | false =>
     cases (v.now.ah.getD i default).kind == 1 with
     | true=>rfl
     | false =>
      cases (v.now.ah.getD i default).kind == 2 with
      | true=>cases ((decide (((i:Nat):Int)≤cj))&&((dc .i64 ((v.now.ah.getD i default).flags) 2) == 0))&&bW aj ((i:Nat):Int) <;> rfl
      | false=>cases bW (uL v part cj aj i) ((v.now.ah.getD i default).for_) <;> rfl
  ·dsimp only
   rw [decide_eq_false (by omega),cond_false]
theorem contains_iff (l:List Int) (x:Int):bW l x=true↔x∈l:=by
 refine Iff.trans (xB l x) ?_
 constructor
 ·rintro ⟨q,hq,e⟩
  rw [← (beq_iff_eq.1 e:l.getD q default=x)]
  exact ru hq _
 ·intro h
  obtain ⟨i,hi,rfl⟩:=List.getElem_of_mem h
  exact ⟨i,hi,by simp [List.getD,hi]⟩
theorem Ht {v:View} {part cj:Int} {aj:List Int}:∀ {n:Nat} {y:Int},y∈uL v part cj aj n→0≤y∧y < n∧ib v y=part∧SR v cj aj (uL v part cj aj y.toNat) y.toNat=true∧∀ z,z∈uL v part cj aj y.toNat→z∈uL v part cj aj n
 | 0,y,h=>by cases h
 | n+1,y,h=>by
  have up:∀ z,z∈uL v part cj aj n→z∈uL v part cj aj (n+1):=fun z hz=>by
   show z∈Aq v part cj aj n (uL v part cj aj n)
   unfold Aq
   cases ib v ((n:Nat):Int) != part with
   | true=>exact hz
   | false =>
    cases SR v cj aj (uL v part cj aj n) n with
    | true=>exact List.mem_append_left _ hz
    | false=>exact hz
  have old:y∈uL v part cj aj n→0≤y∧y < ((n+1:Nat):Int)∧ib v y=part∧SR v cj aj (uL v part cj aj y.toNat) y.toNat=true∧∀ z,z∈uL v part cj aj y.toNat→z∈uL v part cj aj (n+1):=fun hy=>by
   have:=Ht hy
   exact ⟨this.1,by omega,this.2.2.1,this.2.2.2.1,fun z hz=>up z (this.2.2.2.2 z hz)⟩
  change y∈Aq v part cj aj n (uL v part cj aj n) at h
  unfold Aq at h
  cases hp:ib v ((n:Nat):Int) != part with
  | true=>rw [hp,cond_true] at h; exact old h
  | false =>
   rw [hp,cond_false] at h
   cases hi:SR v cj aj (uL v part cj aj n) n with
   | false=>rw [hi,cond_false] at h; exact old h
   | true =>
    rw [hi,cond_true,List.mem_append,List.mem_singleton] at h
    rcases h with h | rfl
    ·exact old h
    ·exact ⟨by omega,by omega,by simpa using hp,by simpa using hi,fun z hz=>up z (by simpa using hz)⟩
theorem Hu {v:View} {part cj:Int} {aj:List Int} {y:Int} (h:y∈bE v part cj aj):(cj = -1∨cj∈aj)∧y∈uL v part cj aj v.now.ah.length:=by
 rw [SS] at h
 cases hc:(cj != (-1))&&(!(bW aj cj)) with
 | true=>rw [hc] at h; cases h
 | false =>
  rw [hc,cond_false] at h
  refine ⟨?_,h⟩
  by_cases e:cj = -1
  ·exact .inl e
  ·refine .inr ((contains_iff aj cj).1 ?_)
   have:(cj != (-1))=true:=by simpa using e
   rw [this,Bool.true_and,Bool.not_eq_eq_eq_not,Bool.not_false] at hc
   exact hc
def BX (now:ar) (i:Int):Bool:=now.au.any fun a=>a.kind == 7&&a.at_ == i
def Hv (now:ar):List Int:=((List.range now.ah.length).filter fun i=>((now.ah.getD i default).kind == 2)&&!(BX now ((i:Nat):Int))).map fun i=>(now.ah.getD i default).part
theorem rr {α:Type} (k k':Int) (v:α):∀ (m:List (Int × α)),mU (mL m k v) k'=if k'=k then some v else mU m k'
 | []=>by
  simp only [mL,mU]
  by_cases e:k'=k
  ·subst e; simp
  ·have:(k' == k)=false:=by simpa using e
   rw [this,if_neg e]; rfl
 | p :: r=>by
  have ih:=rr k k' v r
  simp only [mL]
  cases h:k == p.1 with
  | true =>
   have h:=beq_iff_eq.1 h
   simp only [cond_true,mU]
   by_cases e:k'=k
   ·subst e; rw [← h]; simp
   ·have:(k' == p.1)=false:=by rw [← h]; simpa using e
    rw [this,if_neg e]; rfl
  | false =>
   simp only [cond_false,mU,ih]
   by_cases e:k'=k
   ·subst e; rw [h]; simp
   ·rw [if_neg e,if_neg e]
theorem SU (au:List bC) (p:bC→Bool) (k:Int) (m:List (Int × Bool)):gp (au.foldl (fun m a=>bif p a then mL m a.at_ true else m) m) k false=(au.any (fun a=>p a&&a.at_ == k)||gp m k false):=by
 induction au generalizing m with
 | nil=>rfl
 | cons a r ih =>
  rw [List.foldl_cons,ih,List.any_cons]
  cases hp:p a with
  | false=>simp
  | true =>
   simp only [cond_true,Bool.true_and]
   unfold gp
   rw [rr]
   by_cases e:k=a.at_
   ·subst e; simp
   ·have:(a.at_ == k)=false:=by simpa using fun h:a.at_=k=>e h.symm
    rw [if_neg e,this,Bool.false_or]
theorem LW (f:ar) (day:Int):bU f day=⟨f,aB f day,day,bif (((Lib.compact (ry (Hv (aB f day)))).length:Nat):Int) == 0 then [0] else Lib.compact (ry (Hv (aB f day)))⟩:=by
 unfold bU mF
 dsimp +instances only [Sk.pC,Sk.rq,Sk.vj,Sk.oe,Sk.ue,Sk.xh,Sk.PM,Sk.jR,gV.Kb,kk,kp,aY.zU,aY.YF,zV.Kb,xg.Kb,bT,oV,kS]
 generalize aB f day=now
 rw [l9 now.au (fun s i=>(i,s)) (fun x (s:List (Int × Bool))=>Sum.inr (bif x.kind == 7 then mL s x.at_ true else s)) (fun s=>Sum.inr s) (fun s i hi=>?_) (fun s=>?_) (by omega) []]
 ·rw [qS (fun (x:bC) s=>bif x.kind == 7 then mL s x.at_ true else s)]
  simp only [qR]
  have hg:∀ k,gp (now.au.foldl (fun m a=>bif a.kind == 7 then mL m a.at_ true else m) []) k false=BX now k:=fun k=>by
   rw [SU now.au (fun a=>a.kind == 7) k []]
   show (_||false)=_
   rw [Bool.or_false]; rfl
  generalize now.au.foldl (fun m a=>bif a.kind == 7 then mL m a.at_ true else m) []=m at hg
  refine Eq.trans (congrArg (fun q=>ki q _) (Fl now.ah.length (fun n=>((List.range n).filter fun i=>((now.ah.getD i default).kind == 2)&&!(BX now ((i:Nat):Int))).map fun i=>(now.ah.getD i default).part) (fun s i=>(i,s)) (fun s=>Sum.inr s) (fun i hi=>?_) ?_ (by omega))) ?_
  rotate_left
  rotate_left
  ·simp only [qR]
   show (bif (((Lib.compact (ry (Hv now))).length:Nat):Int) == 0 then View.mk f now day [0] else View.mk f now day (Lib.compact (ry (Hv now))))=View.mk f now day (bif (((Lib.compact (ry (Hv now))).length:Nat):Int) == 0 then [0] else Lib.compact (ry (Hv now)))
   cases (((Lib.compact (ry (Hv now))).length:Nat):Int) == 0 <;> rfl
  ·dsimp only
   rw [decide_eq_true (by omega),cond_true,hg,List.range_succ,List.filter_append,List.map_append]
   cases hc:((now.ah.getD i default).kind == 2)&&!(BX now ((i:Nat):Int)) with
   | true=>rw [List.filter_cons_of_pos (by simpa using hc)]; rfl
   | false=>rw [List.filter_cons_of_neg (by simpa using hc)]; simp
  ·dsimp only
   rw [decide_eq_false (by omega),cond_false]
 ·rw [decide_eq_true (by omega),cond_true]
  cases (now.au.getD i default).kind == 7 <;> rfl
 ·rw [decide_eq_false (by omega),cond_false]
def gb (c_:fD) (o:mI) (sign:Int) (aj:List Int) (js:List cI):Sk (Int × Int) :=
 .r 1 ((qa c_.view sign).c) fun x1 =>
 .r 2 (.al (.p (bA sign js.length)) ((oH o.state ((js.getD sign.toNat default).binds)).c)) fun x2 =>
 .r 4 (.p (bA x1 c_.view.now.ah.length)) fun _ =>
 .br (((c_.view.now.ah.getD x1.toNat default).kind) == 1)
 (.br (!((c_.due != (-1))&&(decide (c_.view.day≥c_.due))))
 (.fin (0,0))
 (.fin (x2,0)))
 (.r 8 ((ic c_.view.now.au).c) fun x3 =>
 .r 9 (.wh ((!((c_.due != (-1))&&(decide (c_.view.day≥c_.due))))&&(!x3)) false (.p (bA x1 js.length))) fun _ =>
 .br (((!((c_.due != (-1))&&(decide (c_.view.day≥c_.due))))&&(!x3))||(!((js.getD x1.toNat default).nC)))
 (.fin (0,0))
 (.bt
 (.loop (default:Sum (Int × Int) (Int × Int)) (fun i5=>i5.2.2≤aj.length) (fun i5=>aj.length - i5.2.2) ((0,1,0):Int × Int × Nat)
 (fun (i5:Int × Int × Nat)=>⟨[(16,iv i5.1),(17,iv i5.2.1),(76,iv (i5.2.2:Int))],[]⟩) fun i5 =>
 .lt 3 0 i5.2.2 aj.length
 (.r 14 (.p (bA (i5.2.2:Int) aj.length)) fun _ =>
 .bind false (fun _=>True)
 (.br (decide ((aj.getD i5.2.2 default)≤o.sign))
 (.fin (.inr (aq (i5.2.1+1))))
 (.fin (.inr i5.2.1)))
 (fun (b6:Int)=>⟨[(17,iv b6)],[]⟩) fun b6 =>
 .br ((decide ((aj.getD i5.2.2 default)≤o.sign))&&(decide ((aj.getD i5.2.2 default)≥x1)))
 (.nx 19 76 i5.2.2 (aq (i5.1+1),b6,i5.2.2+1))
 (.nx 19 76 i5.2.2 (i5.1,b6,i5.2.2+1)))
 (.fin (.inl (.inr (i5.1,i5.2.1)))))
 (fun (b4:Int × Int)=>⟨[(16,iv b4.1),(17,iv b4.2)],[]⟩) fun b4 =>
 .r 20 ((aF aj x1).c) fun x7 =>
 .bind false (fun _=>True)
 (.br (!x7)
 (.fin (.inr b4.2))
 (.fin (.inr b4.1)))
 (fun (b8:Int)=>⟨[(16,iv b8)],[]⟩) fun b8 =>
 .r 22 (.dep ((oI c_.r c_.forum c_.view.all x1 c_.view.day).c) fun x9=>(oH x2 x9.all).c) fun Su =>
 .fin (Su.2,b8)))
def bI c_ o sign aj js:=(gb c_ o sign aj js).val
theorem Ar (c_:fD) (o:mI) (sign:Int) (aj:List Int) (js:List cI) (he:js.length=c_.view.now.ah.length) (hs:0≤sign∧sign < (c_.view.now.ah.length:Int)) (hc:c_.view.now=aB c_.view.all c_.view.day) (hF:bX c_.r c_.view.all) (SV:c_.view.ma) (O6:c_.view.all.Small) (Ot:c_.r.ca) (LV:c_.r.Small):(gb c_ o sign aj js).aZ (fun _=>True):=by
 unfold gb
 try simp only [oI,oH,qa,ic,aF]
 exact mu
def nJ c_ o sign aj js:=kk tok mixed Tryz.func28 [av c_.cells,av o.cells,iv sign,lv bF aj,lv cI.cells js] (fun x=>.eD [iv x.1,iv x.2]) true (gb c_ o sign aj js) (bI c_ o sign aj js) (fun (h:(js.length=c_.view.now.ah.length)∧(0≤sign∧sign < (c_.view.now.ah.length:Int))∧(c_.view.now=aB c_.view.all c_.view.day)∧(bX c_.r c_.view.all)∧(c_.view.ma)∧(c_.view.all.Small)∧(c_.r.ca)∧(c_.r.Small))=>Ar c_ o sign aj js h.1 h.2.1 h.2.2.1 h.2.2.2.1 h.2.2.2.2.1 h.2.2.2.2.2.1 h.2.2.2.2.2.2.1 h.2.2.2.2.2.2.2)
structure EN where
 sum:Int
 lH:Int
 BZ:Int
 exchange:Int
 fX:Int
 rest:Int
 aE:Int
 deriving Inhabited
def EN.cells (c:EN):List D:=[dI c.sum,dI c.lH,dI c.BZ,dI c.exchange,dI c.fX,dI c.rest,dI c.aE]
def iQ (r:ai) (forum:Int) (f:ar) (sign:Int) (day:Int):Sk (cI × Bool) :=
 .r 1 ((mH r forum f day).c) fun x1 =>
 .br ((decide (sign < 0))||(decide (sign≥((x1.f.ah.length:Nat):Int))))
 (.fin (({ sign:=0,kind:=0,jq:=0,binds:=0,text:=0,sum:=0,nC:=false }:cI),false))
 (.r 4 ((eO x1 sign).c) fun x2 =>
 .fin (x2,true))
def DV r forum f sign day:=(iQ r forum f sign day).val
theorem EO (r:ai) (forum:Int) (f:ar) (sign:Int) (day:Int) (hP:f.mX∧f.Small):(iQ r forum f sign day).cC (fun (x:cI × Bool)=>0≤x.1.sum∧x.1.sum≤1099511627776):=by
 refine Sk.aX _ ?_
 unfold iQ
 simp only [Sk.cx,Sk.aI,reduceCtorEq,ON,kk,kp,mH,eO,maxLen]
 intro x _ hx
 refine ⟨fun _=>⟨by decide,by decide⟩,fun hc y _ hy=>hy ⟨by rw [hx.1]; exact Rw hP.1 day,by rw [hx.1]; exact xA hP.2 day,?_⟩⟩
 simp only [LN] at hc
 omega
theorem Dj (r:ai) (forum:Int) (f:ar) (sign:Int) (day:Int):(fun (x:cI × Bool)=>(f.mX∧f.Small)→(0≤x.1.sum∧x.1.sum≤1099511627776)) (DV r forum f sign day):=fun hP=>Sk.cZ _ (EO r forum f sign day hP)
theorem Hw (r:ai) (forum:Int) (f:ar) (sign:Int) (day:Int) (bm:f.Small) (bM:r.ca) (bh:r.Small):(iQ r forum f sign day).aZ (fun _=>True):=by
 refine Sk.aU _ ?_
 unfold iQ
 simp only [Sk.jb,Sk.aI,reduceCtorEq,ON,kk,kp,mH,eO,maxLen]
 refine ⟨⟨bm,bM,bh⟩,fun x _ hx hc=>?_⟩
 have hS:x.f.Small:=by rw [hx.1]; exact xA bm day
 have hB:x.r.ca:=by rw [hx.2]; exact bM
 have hR:x.r.Small:=by rw [hx.2]; exact bh
 simp only [LN] at hc
 exact ⟨by omega,hS,hB,hR⟩
def tK r forum f sign day:=kk tok mixed Tryz.func66 [av r.cells,iv forum,av f.cells,iv sign,iv day] (fun x=>.eD [av x.1.cells,bv x.2]) true (iQ r forum f sign day) (DV r forum f sign day) (u3 (Hw r forum f sign day)) (fun (x:cI × Bool)=>(f.mX∧f.Small)→(0≤x.1.sum∧x.1.sum≤1099511627776)) (Dj r forum f sign day)
def l6 (n:Int) (ef:Int):Sk (Bool) :=
 .fin ((decide (n≥0))&&(decide (n≤ef)))
def B0 n ef:=(l6 n ef).val
theorem wo (n:Int) (ef:Int):B0 n ef=((decide (n≥0))&&(decide (n≤ef))):=rfl
theorem EP (n:Int) (ef:Int):(l6 n ef).aZ (fun _=>True):=by
 unfold l6
 exact mO
def iR n ef:=kk tok mixed Tryz.func161 [iv n,iv ef] (fun x=>bv x) true (l6 n ef) (B0 n ef) (u0 (EP n ef))
def T8:List Nat:=[0,1,2,2,3,3,3,3,4,4,4,4,4,4,4,4]++List.replicate 16 5++List.replicate 32 6++List.replicate 64 7++List.replicate 128 8
theorem abd:∀ k,k < 256→0 < k→1≤T8.getD k 0∧T8.getD k 0≤8∧2 ^ (T8.getD k 0 - 1)≤k∧k < 2 ^ (T8.getD k 0):=by decide +kernel
theorem Y3 {x d:Int} {n t:Nat} (hd:d=2 ^ n) (h1:(2:Int) ^ (t - 1)≤x / d) (h2:x / d < 2 ^ t) (ht:1≤t):(2:Int) ^ (n+t - 1)≤x∧x < 2 ^ (n+t):=by
 subst hd
 have hp:(0:Int) < 2 ^ n:=Int.pow_pos (by omega)
 have e:=Int.mul_ediv_add_emod x (2 ^ n)
 have r0:=Int.emod_nonneg x (Int.ne_of_gt hp)
 have r1:=Int.emod_lt_of_pos x hp
 rw [show n+t - 1=n+(t - 1) by omega,Int.pow_add,Int.pow_add]
 constructor
 ·have:=Int.mul_le_mul_of_nonneg_left h1 (Int.le_of_lt hp)
  omega
 ·have:(2:Int) ^ n * (x / 2 ^ n+1)≤2 ^ n * 2 ^ t:=Int.mul_le_mul_of_nonneg_left (by omega) (Int.le_of_lt hp)
  rw [Int.mul_add] at this
  omega
theorem RB (a:Int):cQ .u64 a 32=a / 4294967296:=Cu .u64 (b:=32) (by decide)
theorem XM (a:Int):cQ .u64 a 16=a / 65536:=Cu .u64 (b:=16) (by decide)
theorem abe (a:Int):cQ .u64 a 8=a / 256:=Cu .u64 (b:=8) (by decide)
theorem Vg {x:Int} (h:0 < x) (h2:x < 256):1≤T8.getD x.toNat 0∧T8.getD x.toNat 0≤8∧(2:Int) ^ (T8.getD x.toNat 0 - 1)≤x∧x < 2 ^ (T8.getD x.toNat 0):=by
 obtain ⟨h3,h4,h5,h6⟩:=abd x.toNat (by omega) (by omega)
 refine ⟨h3,h4,?_,?_⟩
 ·have:((2 ^ (T8.getD x.toNat 0 - 1):Nat):Int)≤(x.toNat:Int):=by exact_mod_cast h5
  rw [Int.natCast_pow] at this
  have e:((2:Nat):Int)=2:=rfl
  rw [e] at this
  omega
 ·have:((x.toNat:Nat):Int) < ((2 ^ (T8.getD x.toNat 0):Nat):Int):=by exact_mod_cast h6
  rw [Int.natCast_pow] at this
  have e:((2:Nat):Int)=2:=rfl
  rw [e] at this
  omega
theorem Vh:∀ k,k < 256→((⟨#[0,1,2,2,3,3,3,3,4,4,4,4,4,4,4,4,5,5,5,5,5,5,5,5,5,5,5,5,5,5,5,5,6,6,6,6,6,6,6,6,6,6,6,6,6,6,6,6,6,6,6,6,6,6,6,6,6,6,6,6,6,6,6,6,7,7,7,7,7,7,7,7,7,7,7,7,7,7,7,7,7,7,7,7,7,7,7,7,7,7,7,7,7,7,7,7,7,7,7,7,7,7,7,7,7,7,7,7,7,7,7,7,7,7,7,7,7,7,7,7,7,7,7,7,7,7,7,7,8,8,8,8,8,8,8,8,8,8,8,8,8,8,8,8,8,8,8,8,8,8,8,8,8,8,8,8,8,8,8,8,8,8,8,8,8,8,8,8,8,8,8,8,8,8,8,8,8,8,8,8,8,8,8,8,8,8,8,8,8,8,8,8,8,8,8,8,8,8,8,8,8,8,8,8,8,8,8,8,8,8,8,8,8,8,8,8,8,8,8,8,8,8,8,8,8,8,8,8,8,8,8,8,8,8,8,8,8,8,8,8,8,8,8,8,8,8,8,8,8,8,8,8,8,8,8,8]⟩:ByteArray).data.toList.getD k 0).toNat=T8.getD k 0:=by decide +kernel
theorem s7 {x d:Int} {n t:Nat} (hd:d=2 ^ n) (h1:(2:Int) ^ (t - 1)≤x / d) (h2:x / d < 2 ^ t) (ht:1≤t) (ht8:t≤8) (hn:n≤56) {r:Int} (hr:r=(n+t:Nat)):1≤r∧r≤64∧2 ^ (r.toNat - 1)≤x∧x < 2 ^ r.toNat:=by
 subst hr
 have:=Y3 hd h1 h2 ht
 rw [Int.toNat_natCast]
 exact ⟨by omega,by omega,this.1,this.2⟩
def jE (x_:Int):Sk (Int) :=
 .bind false (fun b1=>(0 < x_→0 < b1.1)∧0≤b1.1∧b1.1 < 4294967296∧((b1.2=0∧b1.1=x_)∨(b1.2=32∧b1.1=x_ / 4294967296)))
 (.br (decide (x_≥4294967296))
 (.r 2 (.p (0≤(32:Int))) fun _ =>
 .fin (.inr (cQ .u64 x_ 32,32)))
 (.fin (.inr (x_,0))))
 (fun (b1:Int × Int)=>⟨[(0,.d (.v (.int .u64 b1.1))),(2,iv b1.2)],[]⟩) fun b1 =>
 .bind false (fun b2=>(0 < x_→0 < b2.1)∧0≤b2.1∧b2.1 < 65536∧((b2.2=0∧b2.1=x_)∨(b2.2=16∧b2.1=x_ / 65536)∨(b2.2=32∧b2.1=x_ / 4294967296)∨(b2.2=48∧b2.1=x_ / 281474976710656)))
 (.br (decide (b1.1≥65536))
 (.r 5 (.p (0≤(16:Int))) fun _ =>
 .fin (.inr (cQ .u64 b1.1 16,aq (b1.2+16))))
 (.fin (.inr (b1.1,b1.2))))
 (fun (b2:Int × Int)=>⟨[(0,.d (.v (.int .u64 b2.1))),(2,iv b2.2)],[]⟩) fun b2 =>
 .br (decide (b2.1≥256))
 (.r 8 (.p (0≤(8:Int))) fun _ =>
 .r 10 (.p (0≤(IntKind.u8.wrap (cQ .u64 b2.1 8))∧(IntKind.u8.wrap (cQ .u64 b2.1 8)) < (((⟨#[0,1,2,2,3,3,3,3,4,4,4,4,4,4,4,4,5,5,5,5,5,5,5,5,5,5,5,5,5,5,5,5,6,6,6,6,6,6,6,6,6,6,6,6,6,6,6,6,6,6,6,6,6,6,6,6,6,6,6,6,6,6,6,6,7,7,7,7,7,7,7,7,7,7,7,7,7,7,7,7,7,7,7,7,7,7,7,7,7,7,7,7,7,7,7,7,7,7,7,7,7,7,7,7,7,7,7,7,7,7,7,7,7,7,7,7,7,7,7,7,7,7,7,7,7,7,7,7,8,8,8,8,8,8,8,8,8,8,8,8,8,8,8,8,8,8,8,8,8,8,8,8,8,8,8,8,8,8,8,8,8,8,8,8,8,8,8,8,8,8,8,8,8,8,8,8,8,8,8,8,8,8,8,8,8,8,8,8,8,8,8,8,8,8,8,8,8,8,8,8,8,8,8,8,8,8,8,8,8,8,8,8,8,8,8,8,8,8,8,8,8,8,8,8,8,8,8,8,8,8,8,8,8,8,8,8,8,8,8,8,8,8,8,8,8,8,8,8,8,8,8,8,8,8,8,8]⟩:ByteArray).size:Nat):Int))) fun _ =>
 .fin (aq ((aq (b2.2+8))+(aq ((((⟨#[0,1,2,2,3,3,3,3,4,4,4,4,4,4,4,4,5,5,5,5,5,5,5,5,5,5,5,5,5,5,5,5,6,6,6,6,6,6,6,6,6,6,6,6,6,6,6,6,6,6,6,6,6,6,6,6,6,6,6,6,6,6,6,6,7,7,7,7,7,7,7,7,7,7,7,7,7,7,7,7,7,7,7,7,7,7,7,7,7,7,7,7,7,7,7,7,7,7,7,7,7,7,7,7,7,7,7,7,7,7,7,7,7,7,7,7,7,7,7,7,7,7,7,7,7,7,7,7,8,8,8,8,8,8,8,8,8,8,8,8,8,8,8,8,8,8,8,8,8,8,8,8,8,8,8,8,8,8,8,8,8,8,8,8,8,8,8,8,8,8,8,8,8,8,8,8,8,8,8,8,8,8,8,8,8,8,8,8,8,8,8,8,8,8,8,8,8,8,8,8,8,8,8,8,8,8,8,8,8,8,8,8,8,8,8,8,8,8,8,8,8,8,8,8,8,8,8,8,8,8,8,8,8,8,8,8,8,8,8,8,8,8,8,8,8,8,8,8,8,8,8,8,8,8,8,8]⟩:ByteArray).data.toList.getD ((IntKind.u8.wrap (cQ .u64 b2.1 8)).toNat) 0).toNat:Int))))))
 (.r 10 (.p (0≤(IntKind.u8.wrap (b2.1))∧(IntKind.u8.wrap (b2.1)) < (((⟨#[0,1,2,2,3,3,3,3,4,4,4,4,4,4,4,4,5,5,5,5,5,5,5,5,5,5,5,5,5,5,5,5,6,6,6,6,6,6,6,6,6,6,6,6,6,6,6,6,6,6,6,6,6,6,6,6,6,6,6,6,6,6,6,6,7,7,7,7,7,7,7,7,7,7,7,7,7,7,7,7,7,7,7,7,7,7,7,7,7,7,7,7,7,7,7,7,7,7,7,7,7,7,7,7,7,7,7,7,7,7,7,7,7,7,7,7,7,7,7,7,7,7,7,7,7,7,7,7,8,8,8,8,8,8,8,8,8,8,8,8,8,8,8,8,8,8,8,8,8,8,8,8,8,8,8,8,8,8,8,8,8,8,8,8,8,8,8,8,8,8,8,8,8,8,8,8,8,8,8,8,8,8,8,8,8,8,8,8,8,8,8,8,8,8,8,8,8,8,8,8,8,8,8,8,8,8,8,8,8,8,8,8,8,8,8,8,8,8,8,8,8,8,8,8,8,8,8,8,8,8,8,8,8,8,8,8,8,8,8,8,8,8,8,8,8,8,8,8,8,8,8,8,8,8,8,8]⟩:ByteArray).size:Nat):Int))) fun _ =>
 .fin (aq (b2.2+(aq ((((⟨#[0,1,2,2,3,3,3,3,4,4,4,4,4,4,4,4,5,5,5,5,5,5,5,5,5,5,5,5,5,5,5,5,6,6,6,6,6,6,6,6,6,6,6,6,6,6,6,6,6,6,6,6,6,6,6,6,6,6,6,6,6,6,6,6,7,7,7,7,7,7,7,7,7,7,7,7,7,7,7,7,7,7,7,7,7,7,7,7,7,7,7,7,7,7,7,7,7,7,7,7,7,7,7,7,7,7,7,7,7,7,7,7,7,7,7,7,7,7,7,7,7,7,7,7,7,7,7,7,8,8,8,8,8,8,8,8,8,8,8,8,8,8,8,8,8,8,8,8,8,8,8,8,8,8,8,8,8,8,8,8,8,8,8,8,8,8,8,8,8,8,8,8,8,8,8,8,8,8,8,8,8,8,8,8,8,8,8,8,8,8,8,8,8,8,8,8,8,8,8,8,8,8,8,8,8,8,8,8,8,8,8,8,8,8,8,8,8,8,8,8,8,8,8,8,8,8,8,8,8,8,8,8,8,8,8,8,8,8,8,8,8,8,8,8,8,8,8,8,8,8,8,8,8,8,8,8]⟩:ByteArray).data.toList.getD ((IntKind.u8.wrap (b2.1)).toNat) 0).toNat:Int))))))
def bits_Len64 x_:=(jE x_).val
theorem Hx (x_:Int) (hP:0 < x_∧x_ < 18446744073709551616):(jE x_).cC (fun (x:Int)=>1≤x∧x≤64∧2 ^ (x.toNat - 1)≤x_∧x_ < 2 ^ x.toNat):=by
 refine Sk.aX _ ?_
 unfold jE
 simp only [Sk.cx,Sk.aI,reduceCtorEq,ON,kk,kp,maxLen]
 simp only [RB,XM,abe,aD (n:=(32:Int)) (by decide) (by decide)] at *
 refine ⟨⟨fun hc _=>?_,fun hc=>?_⟩,fun b _ hb=>⟨⟨fun hc _=>?_,fun hc=>?_⟩,fun d _ hd=>⟨fun hc _ _=>?_,fun hc _=>?_⟩⟩⟩
 all_goals simp only [LN] at hc
 ·(try simp only [true_or,or_true,and_true,true_and]); omega
 ·(try simp only [true_or,or_true,and_true,true_and]); omega
 ·have e:aq (b.2+16)=b.2+16:=aD (by omega) (by omega)
  rw [e]
  omega
 ·omega
 ·rw [Kc,Int.emod_eq_of_lt (by omega) (by omega),Vh _ (by omega)]
  have ht:=Vg (x:=d.1 / 256) (by omega) (by omega)
  rw [aD (n:=d.2+8) (by omega) (by omega),aD (n:=((T8.getD (d.1 / 256).toNat 0:Nat):Int)) (by omega) (by omega),aD (by omega) (by omega)]
  rcases hd.2.2.2 with ⟨h1,h2⟩ | ⟨h1,h2⟩ | ⟨h1,h2⟩ | ⟨h1,h2⟩
  ·exact s7 (n:=8) (d:=256) (t:=T8.getD (d.1 / 256).toNat 0) (by decide) (by rw [← h2]; exact ht.2.2.1) (by rw [← h2]; exact ht.2.2.2) ht.1 ht.2.1 (by omega) (by omega)
  ·exact s7 (n:=24) (d:=16777216) (t:=T8.getD (d.1 / 256).toNat 0) (by decide) (by rw [show x_ / 16777216=d.1 / 256 by omega]; exact ht.2.2.1) (by rw [show x_ / 16777216=d.1 / 256 by omega]; exact ht.2.2.2) ht.1 ht.2.1 (by omega) (by omega)
  ·exact s7 (n:=40) (d:=1099511627776) (t:=T8.getD (d.1 / 256).toNat 0) (by decide) (by rw [show x_ / 1099511627776=d.1 / 256 by omega]; exact ht.2.2.1) (by rw [show x_ / 1099511627776=d.1 / 256 by omega]; exact ht.2.2.2) ht.1 ht.2.1 (by omega) (by omega)
  ·exact s7 (n:=56) (d:=72057594037927936) (t:=T8.getD (d.1 / 256).toNat 0) (by decide) (by rw [show x_ / 72057594037927936=d.1 / 256 by omega]; exact ht.2.2.1) (by rw [show x_ / 72057594037927936=d.1 / 256 by omega]; exact ht.2.2.2) ht.1 ht.2.1 (by omega) (by omega)
 ·rw [Kc,Int.emod_eq_of_lt (by omega) (by omega),Vh _ (by omega)]
  have ht:=Vg (x:=d.1) (by omega) (by omega)
  rw [aD (n:=((T8.getD d.1.toNat 0:Nat):Int)) (by omega) (by omega),aD (by omega) (by omega)]
  rcases hd.2.2.2 with ⟨h1,h2⟩ | ⟨h1,h2⟩ | ⟨h1,h2⟩ | ⟨h1,h2⟩
  ·exact s7 (n:=0) (d:=1) (t:=T8.getD d.1.toNat 0) (by decide) (by rw [show x_ / 1=d.1 by omega]; exact ht.2.2.1) (by rw [show x_ / 1=d.1 by omega]; exact ht.2.2.2) ht.1 ht.2.1 (by omega) (by omega)
  ·exact s7 (n:=16) (d:=65536) (t:=T8.getD d.1.toNat 0) (by decide) (by rw [← h2]; exact ht.2.2.1) (by rw [← h2]; exact ht.2.2.2) ht.1 ht.2.1 (by omega) (by omega)
  ·exact s7 (n:=32) (d:=4294967296) (t:=T8.getD d.1.toNat 0) (by decide) (by rw [← h2]; exact ht.2.2.1) (by rw [← h2]; exact ht.2.2.2) ht.1 ht.2.1 (by omega) (by omega)
  ·exact s7 (n:=48) (d:=281474976710656) (t:=T8.getD d.1.toNat 0) (by decide) (by rw [← h2]; exact ht.2.2.1) (by rw [← h2]; exact ht.2.2.2) ht.1 ht.2.1 (by omega) (by omega)
theorem ER (x_:Int):(fun (x:Int)=>(0 < x_∧x_ < 18446744073709551616)→(1≤x∧x≤64∧2 ^ (x.toNat - 1)≤x_∧x_ < 2 ^ x.toNat)) (bits_Len64 x_):=fun hP=>Sk.cZ _ (Hx x_ hP)
theorem Jf (x_:Int) (hx:0≤x_∧x_ < 18446744073709551616):(jE x_).aZ (fun _=>True):=by
 refine Sk.aU _ ?_
 unfold jE
 simp only [Sk.jb,Sk.aI,reduceCtorEq,ON,kk,kp,maxLen]
 simp only [RB,XM,abe,aD (n:=(32:Int)) (by decide) (by decide)] at *
 refine ⟨⟨fun hc=>⟨by decide,fun _=>?_⟩,fun hc=>?_⟩,fun b _ hb=>⟨⟨fun hc=>⟨by decide,fun _=>?_⟩,fun hc=>?_⟩,fun d _ hd=>⟨fun hc=>⟨by decide,fun _=>⟨?_,?_⟩⟩,fun hc=>⟨?_,?_⟩⟩⟩⟩
 all_goals simp only [LN] at hc
 ·(try simp only [true_or,or_true,and_true,true_and]); omega
 ·(try simp only [true_or,or_true,and_true,true_and]); omega
 ·have e:aq (b.2+16)=b.2+16:=aD (by omega) (by omega)
  rw [e]
  omega
 ·omega
 ·rw [Kc]; omega
 ·rw [Kc,Int.emod_eq_of_lt (by omega) (by omega)]; exact (show _ < ((256:Nat):Int) by omega)
 ·rw [Kc]; omega
 ·rw [Kc,Int.emod_eq_of_lt (by omega) (by omega)]; exact (show _ < ((256:Nat):Int) by omega)
def vI x_:=kk tok mixed Tryz.func96 [.d (.v (.int .u64 x_))] (fun x=>iv x) true (jE x_) (bits_Len64 x_) (Jf x_) (fun (x:Int)=>(0 < x_∧x_ < 18446744073709551616)→(1≤x∧x≤64∧2 ^ (x.toNat - 1)≤x_∧x_ < 2 ^ x.toNat)) (ER x_)
def cT (x_:Int):Sk (Int) :=
 .r 1 ((vI x_).c) fun x1 =>
 .fin (aq ((64:Int) - x1))
def bits_LeadingZeros64 x_:=(cT x_).val
theorem uM (x_:Int) (hP:0 < x_∧x_ < 18446744073709551616):(cT x_).cC (fun (x:Int)=>0≤x∧x≤63∧9223372036854775808≤x_ * 2 ^ x.toNat∧x_ * 2 ^ x.toNat < 18446744073709551616):=by
 refine Sk.aX _ ?_
 unfold cT
 simp only [Sk.cx,Sk.aI,reduceCtorEq,ON,kk,kp,vI,maxLen]
 intro x _ h
 obtain ⟨h1,h2,h3,h4⟩:=h hP
 rw [aD (by omega) (by omega)]
 have e1:x.toNat - 1+(64 - x).toNat=63:=by omega
 have e2:x.toNat+(64 - x).toNat=64:=by omega
 have p:(0:Int) < 2 ^ (64 - x).toNat:=Int.pow_pos (by omega)
 have q1:=Int.mul_le_mul_of_nonneg_right h3 (Int.le_of_lt p)
 have q2:=Int.mul_lt_mul_of_pos_right h4 p
 rw [← Int.pow_add,e1] at q1
 rw [← Int.pow_add,e2] at q2
 refine ⟨by omega,by omega,?_,?_⟩
 ·exact q1
 ·exact q2
theorem tL (x_:Int):(fun (x:Int)=>(0 < x_∧x_ < 18446744073709551616)→(0≤x∧x≤63∧9223372036854775808≤x_ * 2 ^ x.toNat∧x_ * 2 ^ x.toNat < 18446744073709551616)) (bits_LeadingZeros64 x_):=fun hP=>Sk.cZ _ (uM x_ hP)
theorem vJ (x_:Int) (hx:0≤x_∧x_ < 18446744073709551616):(cT x_).aZ (fun _=>True):=by
 unfold cT
 try simp only [vI]
 exact mu
def jM x_:=kk tok mixed Tryz.func205 [.d (.v (.int .u64 x_))] (fun x=>iv x) true (cT x_) (bits_LeadingZeros64 x_) (vJ x_) (fun (x:Int)=>(0 < x_∧x_ < 18446744073709551616)→(0≤x∧x≤63∧9223372036854775808≤x_ * 2 ^ x.toNat∧x_ * 2 ^ x.toNat < 18446744073709551616)) (tL x_)
end
end
end Go.Proofs.YtgmnlkccjlnnbaaGreatDoor
