/- A function by hand. -/
import Derived.Test.YtgibnoahjhfmcaaGreatDoorRa7
import Derived.Tactics
import Derived.Tactics2
import Derived.Defers
import Derived.Recover
import Derived.Laws.Pointers
import Derived.Test.YtgibnoahjhfmcaaGreatDoorLd
namespace Go.Proofs.YtgibnoahjhfmcaaGreatDoor
open Go Go.Av
set_option linter.unusedSimpArgs false
set_option linter.unusedVariables false
set_option maxHeartbeats 1000000
set_option maxRecDepth 100000
theorem parse_idle (p2 p3 p4:Addr) (w:World) :
  CallsD Tryz.prog 25 #[.pointer (some p2),.pointer (some p3),.pointer (some p4)] .returning w fun e u' w'=>e=.returned (.tuple #[])∧u'=.returning∧w'=w:=by
 refine callsD_of_wpS Tryz.func25 rfl fun c₀ cs hu=>?_
 apply wpS_seq
 apply wpS_region
 simp only [wpOpsS,go_sem,recoverD,hu,Tryz.ntmps25,Exit.thenS]
 simp [wpOpsS,go_sem,recoverD,hu,Tryz.ntmps25,Exit.thenS]
 apply wpS_seq
 apply wpS_region
 simp [wpOpsS,go_sem,Exit.thenS]
 refine wpS_cond (t:=false) (by simp [Act.eval]) ?_
 simp only [Bool.false_eq_true,if_false]
 refine wpS_of_wp (wp_skip ?_)
 cases c₀
 simp_all [bodyPostS,results,Tryz.results25]
def codeFst:Code→Code | .seq a _=>a | c=>c
def codeSnd:Code→Code | .seq _ b=>b | c=>c
noncomputable def pbody:Code:=(Tryz.f10.body).getD .ret
noncomputable def pmid:Code:=codeSnd (codeSnd (codeSnd pbody))
noncomputable def prest:Code:=codeSnd pmid
def pst4 (s:ByteArray) (x:List Token × Int × Int):St:=⟨[(0,sv s),(2,.ptr 2 0),(3,.ptr 3 0),(4,.ptr 4 0),(5,lv Token.cells x.1)],[(2,.box [.d (.v (.slice none 0 0))]),(3,.box [iv x.2.1]),(4,.box [iv x.2.2])]⟩
def pstR (l:List Order):St:=⟨[(2,.ptr 2 0),(3,.ptr 3 0),(4,.ptr 4 0)],[(2,.box [lv Order.cells l]),(3,.box [iv 0]),(4,.box [iv 0])]⟩
def pstP:St:=⟨[(2,.ptr 2 0),(3,.ptr 3 0),(4,.ptr 4 0)],[(2,.box [.any]),(3,.box [.any]),(4,.box [.any])]⟩
noncomputable def rule_Parse_sk1 (s:ByteArray):Sk ((List Order × Int × Int) ⊕ (List Token × Int × Int)) :=
 .r 1 ((lex_Scan_k s).c) fun x1 =>
 .br (x1.2.2 != 0)
 (.fin (.inl ([],x1.2.1,x1.2.2)))
 (.fin (.inr x1))
noncomputable def pL1 (s:ByteArray):(List Order × Int × Int) ⊕ (List Token × Int × Int)→Leaf
 | .inl x=>.retB (.tup [lv Order.cells x.1,iv x.2.1,iv x.2.2]) [] []
 | .inr x=>.go [.code pmid] (pst4 s x)
set_option maxRecDepth 100000 in
noncomputable def pc1 (s:ByteArray):CT:=chk Tryz.prog TT Tryz.f10.ntmps Tryz.f10.results.toList (resM Tryz.f10.results.toList) 3 [] 3000 [.code pbody] ⟨argSlots 0 [sv s],[]⟩ (pL1 s) (rule_Parse_sk1 s)
theorem pchk1 (s:ByteArray):pc1 s=(pc1 s).diag:=by kernel_rfl
noncomputable def rule_Parse_sk2 (s:ByteArray) (l:List Token):Sk (Except Wrong (List Order)) :=
 .r 5 .z fun _ =>
 .up ⟨[(6,.ptr 888020 0)],Reader.bx 888020 888020 ({ l:=l,at_:=0,end_:=s.size,list:=[] }:Reader)⟩ <|
 .bind true (fun _=>True)
 (.loop (default:Sum (Except Wrong (List Order)) Reader) (fun i=>Rgd i) (fun i=>i.l.length - i.at_.toNat) (({ l:=l,at_:=0,end_:=s.size,list:=[] }:Reader))
 (fun (i:Reader)=>⟨[(6,.ptr 888020 0)],Reader.bx 888020 888020 i⟩) fun i =>
 .br (decide (i.at_ < ((i.l.length:Nat):Int)))
 (.rx 7 .z (fun _=>(rule_reader_order_kx i).c) (fun _ _=>.z) (fun e_=>.inl (.inl (.error e_))) fun _ x _ =>
 .up ⟨[(6,.ptr 888020 0)],Reader.bx 888020 888020 x⟩ <|
 .fin (.inr x))
 (.fin (.inl (.inr i))))
 (fun b=>⟨[(6,.ptr 888020 0)],Reader.bx 888020 888020 b⟩) fun b =>
 .fz 888024 <|
 .r 8 .z fun _ =>
 .fin (.ok b.list)
def pL2:Except Wrong (List Order)→Leaf
 | .ok l=>.go [.code .ret] (pstR l)
 | .error e=>.pan (panV e) (some pstP)
set_option maxRecDepth 100000 in
noncomputable def pc2 (s:ByteArray) (x:List Token × Int × Int):CT:=chk Tryz.prog TT Tryz.f10.ntmps Tryz.f10.results.toList (resM Tryz.f10.results.toList) 3 [2,3,4] 3000 [.code prest] (pst4 s x) pL2 (rule_Parse_sk2 s x.1)
theorem pchk2 (s:ByteArray) (x:List Token × Int × Int):pc2 s x=(pc2 s x).diag:=by kernel_rfl
def pcap (tm:Array Value):Array Value:=#[tm.getD 2 undef,tm.getD 3 undef,tm.getD 4 undef]
theorem parse_wp (a:Act) (w:World) (hn:a.tmps.size=39):(codeFst pmid).wp Tryz.prog (fun e a' w'=>e=.normal∧w'=w∧a'=⟨a.tmps.setIfInBounds 17 (.func (.func 25) #[] (pcap a.tmps)),dfr 25 (pcap a.tmps) :: a.defers⟩) a w:=by
 show (Code.region 4 #[{ dst:=some 17,op:=Op.makeFunc (.func 25) #[] #[.tmp 2,.tmp 3,.tmp 4],type:=1,pos:= "rule.go:210",after:=#[],guard:=none },{ dst:=none,op:=Op.defer { callee:=.value (.tmp 17),args:=#[],argTypes:=#[] },type:=0,pos:= "rule.go:210",after:=#[{ on:=0,ground:=.data }],guard:=none }] false).wp Tryz.prog _ a w
 apply wp_region
 simp [wpOps,go_sem,hn,pcap,dfr]
noncomputable def pret_c (l:List Order):CT:=retC TT Tryz.f10.results.toList (pstR l) (.tup [lv Order.cells l,iv 0,iv 0]) []
theorem pret (l:List Order):pret_c l=(pret_c l).diag:=by kernel_rfl
def pstE (e:Wrong):St:=⟨[(2,.ptr 2 0),(3,.ptr 3 0),(4,.ptr 4 0)],[(2,.box [.d (.v (.slice none 0 0))]),(3,.box [iv e.pos]),(4,.box [iv e.e])]⟩
noncomputable def prete_c (e:Wrong):CT:=retC TT Tryz.f10.results.toList (pstE e) (.tup [lv Order.cells [],iv e.pos,iv e.e]) []
theorem prete (e:Wrong):prete_c e=(prete_c e).diag:=by kernel_rfl
theorem ptr_slot {w:World} {S:Nat→Prop} {μ:Mu} {ν:Nat→Bool} {κ:Nat} {v:Value} (h:Rel w S μ ν (.ptr κ 0) v):∃ g c,v=.pointer (some ⟨g,0,none⟩)∧μ κ=some (some (g,c)):=by
 cases h with
 | ptr hμ=>exact ⟨_,_,rfl,hμ⟩
def parseV (v1:(List Order × Int × Int) ⊕ (List Token × Int × Int)) (v2:List Token × Int × Int→Except Wrong (List Order)):List Order × Int × Int:=match v1 with
 | .inl r=>r
 | .inr x=>match v2 x with | .ok l=>(l,0,0) | .error e=>([],e.pos,e.e)
noncomputable def rule_Parse (s:ByteArray):List Order × Int × Int:=parseV (rule_Parse_sk1 s).val fun x=>(rule_Parse_sk2 s x.1).val
abbrev parseR (v:List Order × Int × Int):AV:=.tup [lv Order.cells v.1,iv v.2.1,iv v.2.2]
def cxInner (C:Cx) (n:Nat):Cx:={ C with nt:=n,dl:=[],dx:=[],dxc:=fun d h=>(by cases h),dok:=fun d h=>(by cases h),dnd:=List.nodup_nil }
theorem sim_enter {C:Cx} {A:M} {a:Act} {w:World} {S:Nat→Prop} {μ:Mu} {ν:Nat→Bool} (h:Sim C A a w S μ ν) (o:Obj) {n:Nat} (A':M) (tm:Array Value) (hsz:tm.size=n) (hlb:A'.lb=A.lb)
  (hsl:∀ t,Rel (w.alloc o) (fun b=>S b∨b=w.heap.size) μ ν (A'.sl t) (tm.getD t undef)):Sim (cxInner C n) A' ⟨tm,[]⟩ (w.alloc o) (fun b=>S b∨b=w.heap.size) μ ν:=by
 have hold:∀ b,b < w.heap.size→(w.alloc o).heap[b]? = w.heap[b]?:=fun b hb=>by
  show (w.heap.push o)[b]? = _
  rw [Array.getElem?_push_lt hb,Array.getElem?_eq_getElem hb]
 have hsize:(w.alloc o).heap.size=w.heap.size+1:=Array.size_push _
 refine ⟨hsz,rfl,hsl,fun κ b hb=>?_,fun κ κ' b b' g c c' h1 h2=>h.inj κ κ' b b' g c c' (hlb ▸ h1) (hlb ▸ h2),fun κ b g c h1=>h.own κ b g c (hlb ▸ h1),fun b hb=>.inl (h.stable b hb),fun b hb=>?_,fun b hb=>?_,?_⟩
 ·have hm:=h.mem κ b (hlb ▸ hb)
  refine hm.mono (fun _ x=>.inl x) (fun q hq=>hold q (h.bound q hq)) (fun _ _ e=>e) (fun g c e=>?_)
  rw [e] at hm
  refine ⟨hold g hm.at.lt,fun hx=>?_⟩
  rcases hx with hx | hx
  ·exact hm.at.not hx
  ·have:=hm.at.lt
   omega
 ·rcases hb with hb | hb
  ·exact h.fresh b hb
  ·exact .inr (.inl (by rw [hb]; exact h.kept.size))
 ·rcases hb with hb | hb
  ·have:=h.bound b hb
   omega
  ·omega
 ·exact h.kept.trans ⟨rfl,rfl,rfl,by omega,fun b hb _=>hold b hb⟩ (fun b _ hb=>hb)
theorem sim_leave {C:Cx} {A A':M} {a a':Act} {w w':World} {S S':Nat→Prop} {μ μ':Mu} {ν ν':Nat→Bool} {n:Nat} (h:Sim C A a w S μ ν) (h':Sim (cxInner C n) A' a' w' S' μ' ν') (A2:M) (hlb:A2.lb=A'.lb)
  (hsl:∀ t,Rel w' S' μ' ν (A2.sl t) (a.tmps.getD t undef)):Sim C A2 a w' S' μ' ν :=
 ⟨h.tmps,h.defers,hsl,fun κ b hb=>h'.mem κ b (hlb ▸ hb),fun κ κ' b b' g c c' h1 h2=>h'.inj κ κ' b b' g c c' (hlb ▸ h1) (hlb ▸ h2),fun κ b g c h1=>h'.own κ b g c (hlb ▸ h1),h'.stable,h'.fresh,h'.bound,h'.kept⟩
def codeThn:Code→Code | .cond _ x _=>x | c=>c
def opsOf:Code→Array Oper | .region _ ops _=>ops | _=>#[]
noncomputable def c5:Code:=codeSnd (codeSnd (codeThn (codeSnd (codeSnd ((Tryz.f25.body).getD .ret)))))
def pst5 (e:Wrong):St:=⟨[(0,.ptr 2 0),(1,.ptr 3 0),(2,.ptr 4 0),(4,.ref [.v (.int .i64 e.pos),.v (.int .i64 e.e)])],[(2,.box [.any]),(3,.box [.any]),(4,.box [.any])]⟩
def pst5E (e:Wrong):St:=⟨[(0,.ptr 2 0),(1,.ptr 3 0),(2,.ptr 4 0)],[(2,.box [.d (.v (.slice none 0 0))]),(3,.box [iv e.pos]),(4,.box [iv e.e])]⟩
noncomputable def r5c (e:Wrong):CT:=match evRegion Tryz.prog TT 21 (opsOf c5) true none (pst5 e) [] with | some (st',ob)=>.two (noProp ob) (leSt st' (pst5E e)) | none=>.bad
theorem r5ok (e:Wrong):r5c e=(r5c e).diag:=by kernel_rfl
theorem r5reg:regR 3 [0,1,2] (opsOf c5)=true:=by kernel_rfl
theorem r5_wp {C:Cx} {a:Act} {w:World} (e:Wrong) (hP:C.P=Tryz.prog) (hnt:C.nt=21) (hs:SimB C (pst5 e) a w) :
  (Code.region 5 (opsOf c5) true).wp Tryz.prog (fun en a' w'=>(en=.normal∧SimB C (pst5E e) a' w')∧∀ u,u∈[0,1,2]→a'.tmps.getD u undef=a.tmps.getD u undef) a w:=by
 have h:=CT.ok_of (r5ok e)
 unfold r5c at h
 split at h
 ·rename_i st' ob hev
  obtain ⟨h1,h2⟩:=h
  have hw:=region_ops (C:=C) (T:=TT) (by rw [hP]; exact tok) (by rw [hP]; exact mixed) (by rw [hP,hnt]; exact hev) (noProp_den h1) hs
  rcases hw with ⟨hd,_⟩ | ⟨_,hw⟩
  ·cases hd
  ·rw [hP] at hw
   have:=wpAny_act (K:=(Goal.ofE Tryz.prog TT 21 25 Tryz.f25 .any [0,1,2] a.tmps C C).kept) (Goal.putOK (g:=Goal.ofE Tryz.prog TT 21 25 Tryz.f25 .any [0,1,2] a.tmps C C) r5reg) (fun e a w h=>h.1) _ _ _ _ (fun u hu=>rfl) hw
   refine wp_mono (wp_region_any mixed this) (fun en a' w' hh=>⟨⟨hh.1.1,?_⟩,hh.2⟩)
   obtain ⟨S',μ',q⟩:=hh.1.2
   exact leSt_le h2 C a' w' ⟨S',μ',q⟩
 ·exact h.elim
set_option maxHeartbeats 1000000 in
theorem parse_pan {C:Cx} (hP:C.P=Tryz.prog) {a:Act} {w:World} (e:Wrong) (hs:SimB C pstP a w) :
  CallsD Tryz.prog 25 (pcap a.tmps) (.panicking (panL (panV e))) w fun en u' w'=>(∃ v,en=.returned v)∧u'=.panicking [{ v:=panV e,recovered:=true }]∧SimB C (pstE e) a w':=by
 obtain ⟨S,μ,hsim⟩:=hs
 have h0:=hsim fun _=>false
 obtain ⟨g2,_,e2,m2⟩:=ptr_slot (h0.slots 2)
 obtain ⟨g3,_,e3,m3⟩:=ptr_slot (h0.slots 3)
 obtain ⟨g4,_,e4,m4⟩:=ptr_slot (h0.slots 4)
 rw [pcap,e2,e3,e4]
 obtain ⟨pos,en⟩:=e
 refine callsD_of_wpS Tryz.func25 rfl fun c₀ cs hu=>?_
 simp only [panL,panV] at hu
 apply wpS_seq
 apply wpS_region
 simp [wpOpsS,go_sem,recoverD,hu,Tryz.ntmps25,Exit.thenS]
 apply wpS_seq
 apply wpS_region
 simp [wpOpsS,go_sem,Exit.thenS]
 refine wpS_cond (t:=true) (by simp [Act.eval]) ?_
 simp only [if_true]
 have hta:∀ w,(Instr.typeAssert (.iface 53 (.agg #[.int .i64 pos,.int .i64 en])) 20 53 true).run Tryz.prog w=.ok (.tuple #[.agg #[.int .i64 pos,.int .i64 en],.bool true]) w:=fun w=>by kernel_rfl
 apply wpS_seq
 apply wpS_region
 simp [wpOpsS,go_sem,Exit.thenS,hta]
 apply wpS_seq
 apply wpS_seq
 apply wpS_region
 simp [wpOpsS,go_sem,Exit.thenS]
 refine wpS_cond (t:=false) (by simp [Act.eval]) ?_
 simp only [Bool.false_eq_true,if_false]
 refine wpS_of_wp (wp_skip ?_)
 simp only [Exit.thenS]
 refine wpS_of_wp ?_
 generalize hT:(#[Value.pointer (some { block:=g2,off:=0 }),Value.pointer (some { block:=g3,off:=0 }),Value.pointer (some { block:=g4,off:=0 })]++_:Array Value)=tm
 have t0:tm.getD 0 undef=.pointer (some ⟨g2,0,none⟩):=by subst hT; simp
 have t1:tm.getD 1 undef=.pointer (some ⟨g3,0,none⟩):=by subst hT; simp
 have t2:tm.getD 2 undef=.pointer (some ⟨g4,0,none⟩):=by subst hT; simp
 have t4:tm.getD 4 undef=.pointer (some ⟨w.heap.size,0,none⟩):=by subst hT; simp
 have tsz:tm.size=21:=by subst hT; simp
 clear hT
 have hwp:=r5_wp (C:=cxInner C 21) (a:=⟨tm,[]⟩) (w:=w.alloc (Obj.cells #[Value.int IntKind.i64 pos,Value.int IntKind.i64 en] 53)) ⟨pos,en⟩ hP rfl ⟨_,μ,fun ν=>sim_enter (hsim ν) _ (pst5 ⟨pos,en⟩).toM tm tsz rfl (fun t=>by
  by_cases q0:t=0
  ·subst q0
   show Rel _ _ _ _ (.ptr 2 0) _
   rw [t0]; exact .ptr m2
  by_cases q1:t=1
  ·subst q1
   show Rel _ _ _ _ (.ptr 3 0) _
   rw [t1]; exact .ptr m3
  by_cases q2:t=2
  ·subst q2
   show Rel _ _ _ _ (.ptr 4 0) _
   rw [t2]; exact .ptr m4
  by_cases q4:t=4
  ·subst q4
   show Rel _ _ _ _ (.ref [.v (.int .i64 pos),.v (.int .i64 en)]) _
   rw [t4]
   refine .ref (fun j=>if j=0 then .int .i64 pos else .int .i64 en) (fun j hj=>⟨.inr rfl,?_⟩) (fun j hj=>?_)
   ·have hj2:j=0∨j=1:=by simp at hj; omega
    have hc:=World.cell?_alloc_new w #[Value.int IntKind.i64 pos,Value.int IntKind.i64 en] 53 (0+j)
    rw [hc]
    rcases hj2 with rfl | rfl <;> rfl
   ·have hj2:j=0∨j=1:=by simp at hj; omega
    rcases hj2 with rfl | rfl <;> exact .v _ rfl
  have hany:(pst5 ⟨pos,en⟩).toM.sl t=.any:=by
   simp only [St.toM,St.get,pst5,look_cons,Ne.symm q0,Ne.symm q1,Ne.symm q2,Ne.symm q4,if_false]
   rfl
  rw [hany]; exact .any _)⟩
 refine wp_mono hwp (fun en' a' w' hh=>?_)
 obtain ⟨⟨rfl,S',μ',hs'⟩,hk⟩:=hh
 refine ⟨(hs' fun _=>false).defers,_,rfl,.tuple #[],by simp [results,Tryz.results25],⟨_,rfl⟩,rfl,S',μ',fun ν=>sim_leave (hsim ν) (hs' ν) (pstE ⟨pos,en⟩).toM rfl (fun t=>?_)⟩
 by_cases q2:t=2
 ·subst q2
  have h:=(hs' ν).slots 0
  rw [hk 0 (by simp),t0] at h
  rw [e2]; exact h
 by_cases q3:t=3
 ·subst q3
  have h:=(hs' ν).slots 1
  rw [hk 1 (by simp),t1] at h
  rw [e3]; exact h
 by_cases q4:t=4
 ·subst q4
  have h:=(hs' ν).slots 2
  rw [hk 2 (by simp),t2] at h
  rw [e4]; exact h
 have hany:(pstE ⟨pos,en⟩).toM.sl t=.any:=by
  simp only [St.toM,St.get,pstE,look_cons,Ne.symm q2,Ne.symm q3,Ne.symm q4,if_false]
  rfl
 rw [hany]; exact .any _
theorem rule_Parse_fn (s:ByteArray) (ho1:(rule_Parse_sk1 s).obs fun _=>True) (ho2:∀ x,(rule_Parse_sk1 s).val=.inr x→(rule_Parse_sk2 s x.1).obs fun _=>True) :
  FnA Tryz.prog 10 [sv s] [] (parseR (rule_Parse s)) []:=by
 refine FnA.introD (T:=TT) (body:=pbody) (fn:=Tryz.f10) Tryz.func10 (by kernel_rfl) (by kernel_rfl) (Nat.le_of_ble_eq_true (by kernel_rfl)) ?_
 refine chk_sound 3000 (g:=.ofD Tryz.prog TT Tryz.f10.ntmps 10 Tryz.f10 (parseR (rule_Parse s))) tok mixed Tryz.func10 (fun h=>by cases h) _ _ _ (pL1 s) (rule_Parse_sk1 s) (fun _=>True) (CT.ok_of (pchk1 s)) ho1 (fun a ha _=>?_)
 have hv:rule_Parse s=parseV a fun x=>(rule_Parse_sk2 s x.1).val:=by rw [ha]; rfl
 cases a with
 | inl r=>exact ⟨Goal.ofD_nrm,by rw [hv]; rfl,rfl⟩
 | inr x =>
  show G _ [.code pmid] (pst4 s x)
  refine G.seq (x:=codeFst pmid) (y:=prest) ?_
  refine G.deferD (t0:=17) (gf:=25) (ts:=pcap) (pr:=[2,3,4]) (fun a w hn=>?_) (fun tm v=>?_) rfl (fun C tm cap h1 h2 hcap=>?_)
  ·exact parse_wp a w hn
  ·simp only [pcap,getD_set_other _ _ _ _ (by decide:2≠17),getD_set_other _ _ _ _ (by decide:3≠17),getD_set_other _ _ _ _ (by decide:4≠17)]
  ·refine chk_sound 3000 (g:=.ofE Tryz.prog TT Tryz.f10.ntmps 10 Tryz.f10 (parseR (rule_Parse s)) [2,3,4] tm C (C.wd (dfr 25 cap) (dfr_nc _ _))) tok mixed Tryz.func10 (fun h=>by cases h) _ _ _ pL2 (rule_Parse_sk2 s x.1) (fun _=>True) (CT.ok_of (pchk2 s x)) (ho2 x ha.symm) (fun a2 ha2 _=>?_)
   have hv2:rule_Parse s=parseV (.inr x) fun _=>a2:=by rw [hv,ha2]; rfl
   cases a2 with
   | ok l =>
    refine G.retD Tryz.func10 (by kernel_rfl) (fun a w hk hs=>⟨?_,?_⟩) []
    ·obtain ⟨S,μ,hsim⟩:=hs
     have h0:=hsim fun _=>false
     obtain ⟨g2,_,e2,_⟩:=ptr_slot (h0.slots 2)
     obtain ⟨g3,_,e3,_⟩:=ptr_slot (h0.slots 3)
     obtain ⟨g4,_,e4,_⟩:=ptr_slot (h0.slots 4)
     rw [hcap,pcap,← hk 2 (by simp),← hk 3 (by simp),← hk 4 (by simp),e2,e3,e4]
     exact (parse_idle _ _ _ w).mono fun e u' w' ⟨h1,h2,h3⟩=>⟨⟨_,h1⟩,h2,h3⟩
    ·refine retC_post (f:=10) (by exact h1) tok (T:=TT) (CT.ok_of (?_:_=_)) hs
     rw [hv2]
     exact pret l
   | error e =>
    refine G.panD Tryz.func10 (by kernel_rfl) (fun a w hk hs=>?_)
    have hc2:cap=pcap a.tmps:=by rw [hcap,pcap,pcap,hk 2 (by simp),hk 3 (by simp),hk 4 (by simp)]
    subst hc2
    refine (parse_pan (by exact h1) e hs).mono (fun en u' w' hh=>⟨hh.1,hh.2.1,?_⟩)
    refine retC_post (f:=10) (by exact h1) tok (T:=TT) (CT.ok_of (?_:_=_)) hh.2.2
    rw [hv2]
    exact prete e
theorem rule_Parse_ok1 (s:ByteArray):(rule_Parse_sk1 s).obs fun _=>True:=⟨trivial,fun _ _ _=>⟨fun _=>trivial,fun _=>trivial⟩⟩
theorem rule_Parse_toks (s:ByteArray) (x:List Token × Int × Int) (h:(rule_Parse_sk1 s).val=.inr x):x=lex_Scan s∧(lex_Scan s).2.2=0:=by
 have e:(rule_Parse_sk1 s).val=bif (lex_Scan s).2.2 != 0 then .inl ([],(lex_Scan s).2.1,(lex_Scan s).2.2) else .inr (lex_Scan s):=rfl
 rw [e] at h
 cases hb:(lex_Scan s).2.2 != 0 with
 | true=>rw [hb] at h; cases h
 | false=>rw [hb] at h; cases h; exact ⟨rfl,by simpa using hb⟩
theorem rule_Parse_ok2 (s:ByteArray) (x:List Token × Int × Int) (h:(rule_Parse_sk1 s).val=.inr x):(rule_Parse_sk2 s x.1).obs fun _=>True:=by
 have hl:x.1.length≤20000:=by rw [(rule_Parse_toks s x h).1]; exact lex_Scan_post s
 refine Sk.obs_of _ ?_
 unfold rule_Parse_sk2
 simp only [Sk.obq,Sk.isLoop,reduceCtorEq,ON,kk,rule_reader_order_kx,CtrX.c,leafX,maxLen]
 all_goals (repeat' first | assumption | (refine rx_ob ?_ ?_ ?_) | (refine rx_ps ?_ ?_ ?_) | (refine rx_ob0 ?_ ?_) | (refine r_ob ?_ ?_) | (refine r_ps ?_ ?_) | (apply And.intro) | (intro h))
 all_goals (try simp only [Rgd,Rs,ixP,OkP_ok,OkP_error,LN] at *)
 all_goals first | trivial | assumption | omega | grind [w64_id] | (simp_all; omega)
noncomputable def rule_Parse_k (s:ByteArray):Ctr (List Order × Int × Int):=⟨Tryz.prog,10,[sv s],parseR,false,rule_Parse s,True,fun _=>rule_Parse_fn s (rule_Parse_ok1 s) (rule_Parse_ok2 s),fun _=>True,trivial⟩
end Go.Proofs.YtgibnoahjhfmcaaGreatDoor
