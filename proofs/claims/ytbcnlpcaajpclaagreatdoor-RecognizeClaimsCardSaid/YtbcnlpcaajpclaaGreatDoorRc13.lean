/- A function by hand. -/
import Derived.Test.YtbcnlpcaajpclaaGreatDoorRc11
import Derived.Test.YtbcnlpcaajpclaaGreatDoorAvYl
namespace Go.Proofs.YtbcnlpcaajpclaaGreatDoor
open Go Go.Av
set_option linter.unusedSimpArgs false
set_option linter.unusedVariables false
set_option maxHeartbeats 1000000
set_option maxRecDepth 100000
noncomputable def ownersL (c:Court) (last:Int):List Int→Owner→List Owner
 | [],o=>[o]
 | l :: r,o=>bif owe_court_passes c l last == 0 then [o] else bif owe_court_passes c l last == 2 then { o with state:=2 } :: ownersL c last r { firm:=(c.view.now.signs.getD l.toNat default).to_,sign:=l,state:=2 } else ownersL c last r { o with firm:=(c.view.now.signs.getD l.toNat default).to_,sign:=l }
noncomputable def ownLast (links:List Int):Int:=links.getD (w64 (((links.length:Nat):Int) - 1)).toNat default
noncomputable def owe_court_owners_c1 (c:Court) (links:List Int):List Owner:=ownersL c (ownLast links) links { firm:=c.view.now.bill.payee,sign:=-1,state:=1 }
def ownEnc (y:Owner):List AV:=[av y.cells]
noncomputable def ownB:Code:=Tryz.f85.body.getD .skip
noncomputable def ownBl:Code:=cB (cA (cB ownB))
noncomputable def ownL:Code:=cA (cA ownBl)
noncomputable def ownR11:Code:=cB (cB ownB)
noncomputable def ownB1:Code:=cA (cA (cB (cB ownL)))
noncomputable def ownR10:Code:=cB (cB (cB ownL))
noncomputable def ownC4:Code:=cB (cB (cB ownB1))
noncomputable def ownR9:Code:=cB ownC4
noncomputable def ownP2:Code:=cA (cB (cA ownC4))
noncomputable def ownR8:Code:=cA (cB ownP2)
noncomputable def ownIf:Code:=cB (cB ownP2)
noncomputable def ownOps8:Array Oper:=opsOf ownR8
noncomputable def ownOps11:Array Oper:=opsOf ownR11
noncomputable def ownK9:List Item:=[.inBlock 1,.code ownR10,.inLoop ownL,.inBlock 0,.code ownR11]
noncomputable def ownI (c:Court) (links:List Int) (i:Nat) (o:Owner) (sl:List (Nat × AV)):St:=⟨sl++[(1,.ref c.cells),(2,.ref [slD intC links]),(4,.ptr 4 0),(14,lv intC links),(15,iv ((links.length:Nat):Int)),(16,iv ((i:Nat):Int))],[(4,.box (o.cells.map .d))]⟩
noncomputable def ownTo (c:Court) (links:List Int) (i:Nat) (s:Int):Owner:={ firm:=(c.view.now.signs.getD (links.getD i default).toNat default).to_,sign:=links.getD i default,state:=s }
noncomputable def ownS1 (c:Court) (links:List Int) (i:Nat):Sk (Option Bool) :=
 .bnd 14 0 links.length <|
 .br (decide (((i:Nat):Int) < ((links.length:Nat):Int)))
  (.r 3 (.p (ixP ((i:Nat):Int) links.length)) fun _ =>
   .r 4 (.andl (.p (ixP (w64 (((links.length:Nat):Int) - 1)) links.length)) ((owe_court_passes_k c (links.getD i default) (ownLast links)).c)) fun x =>
   .br (x == 0) (.fin none) (.br (x == 2) (.r 7 .z fun _=>.fin (some true)) (.fin (some false))))
  (.fin none)
noncomputable def ownS2 (c:Court) (links:List Int) (i:Nat):Sk Unit :=
 .bnd 14 0 links.length <| .r 9 (.p (ixP (links.getD i default) c.view.now.signs.length)) fun _=>.r 10 .z fun _=>.wi 16 (w64 (((i:Nat):Int)+1)) ((i+1:Nat):Int) <| .fin ()
def ownPre (c:Court) (links:List Int):Prop:=links.length≤1000000∧(∀ i,i < links.length→0≤links.getD i default∧links.getD i default < c.view.now.signs.length)∧∀ i,i < links.length→(owe_court_passes_k c (links.getD i default) (ownLast links)).pre
noncomputable def ownLf (c:Court) (links:List Int) (i:Nat) (o:Owner):Option Bool→Leaf
 | none=>.go [.code ownR11] ⟨[(4,.ptr 4 0)],[(4,.box (o.cells.map .d))]⟩
 | some true=>.go (.code ownR8 :: .code ownIf :: .code ownR9 :: ownK9) (ownI c links i { o with state:=2 } [(6,iv (links.getD i default))])
 | some false=>.go (.code ownR9 :: ownK9) (ownI c links i o [(6,iv (links.getD i default))])
theorem owe_court_owners_c1_itA (c:Court) (links:List Int) (hp:ownPre c links):ItA Tryz.prog 85 [.ref c.cells,.ref [slD intC links]] ((owe_court_owners_c1 c links).map ownEnc):=by
 refine ItA.intro (T:=TT) Tryz.func85 rfl (by kernel_rfl) (Nat.le_of_ble_eq_true (by kernel_rfl)) (fun X=>?_)
 have hr8:ownR8=.region 8 ownOps8 false:=by kernel_rfl
 have hr11:ownR11=.region 11 ownOps11 false:=by kernel_rfl
 have hg8:List.range ownOps8.size=[0,1,2,3]:=by kernel_rfl
 have hg11:List.range ownOps11.size=[0,1,2]:=by kernel_rfl
 have hys:∀ k o pre r,owe_court_owners_c1 c links=pre++o :: r→pre.length=k→((owe_court_owners_c1 c links).map ownEnc)[k]? = some (ownEnc o):=fun k o pre r h hk=>by
  rw [h]; subst hk; simp
 have fin:∀ k o pre,owe_court_owners_c1 c links=pre++[o]→pre.length=k→G (X.g TT Tryz.f85 (X.H k)) [.code ownR11] ⟨[(4,.ptr 4 0)],[(4,.box (o.cells.map .d))]⟩:=by
  intro k o pre h hk
  rw [hr11]
  refine G.yr ?_
  rw [hg11]
  refine YW.mvC (o:=ownOps11.getD 0 default) (d:=50) (u:=0) (by kernel_rfl) (by kernel_rfl) (by kernel_rfl) (by simp) (by kernel_rfl) ?_
  refine YW.opC tok mixed (o:=ownOps11.getD 1 default) ⟨[(51,av o.cells),(4,.ptr 4 0)],[(4,.box (o.cells.map .d))]⟩ (by kernel_rfl) (by kernel_rfl) (by kernel_rfl) ?_
  refine YW.ylC (o:=ownOps11.getD 2 default) (d:=52) (u:=50) (n:=k) (ts:=[51]) (c:={ callee:=.value (.tmp 50),args:=#[.tmp 51],argTypes:=#[108] }) (by kernel_rfl) (by kernel_rfl) (by kernel_rfl) rfl (by simp) (by kernel_rfl) (hys k o pre [] h hk) rfl (by kernel_rfl) (by kernel_rfl) ?_ ?_
  ·refine YW.nil (T:=TT) (fn:=Tryz.f85) (by simp) (ItX.ret Tryz.func85 (by kernel_rfl) (fun C h'=>.inl ?_)).1
   have:((owe_court_owners_c1 c links).map ownEnc).length=k+1:=by rw [h]; simp [hk]
   rw [this]
   exact h'
  ·exact YW.nil (T:=TT) (fn:=Tryz.f85) (by simp) (ItX.ret Tryz.func85 (by kernel_rfl) (fun C h'=>.inr h')).1
 have key:∀ d i,i+d=links.length→∀ k o pre,owe_court_owners_c1 c links=pre++ownersL c (ownLast links) (links.drop i) o→pre.length=k→G (X.g TT Tryz.f85 (X.H k)) [.code ownL,.inLoop ownL,.inBlock 0,.code ownR11] (ownI c links i o []):=by
  intro d
  induction d with
  | zero =>
   intro i hi k o pre h hk
   refine ItX.sk tok mixed Tryz.func85 _ (ownS1 c links i) (ownLf c links i o) 100 (by kernel_rfl) ?_ ?_
   ·refine Sk.obs_of _ ?_
    simp only [ownS1,Sk.obq]
    refine fun _=>⟨fun hd=>?_,fun _=>trivial⟩
    simp at hd
    omega
   ·intro a ha
    have:(ownS1 c links i).val=none:=by
     have e:decide (((i:Nat):Int) < ((links.length:Nat):Int))=false:=decide_eq_false (by omega)
     simp only [ownS1,Sk.val,e,cond_false]
    rw [this] at ha
    subst ha
    refine fin k o pre ?_ hk
    rw [h,List.drop_of_length_le (by omega)]
    rfl
  | succ d ih =>
   intro i hi k o pre h hk
   have hlt:i < links.length:=by omega
   have hdrop:links.drop i=links.getD i default :: links.drop (i+1):=by
    rw [List.drop_eq_getElem_cons hlt]
    simp [List.getD,hlt]
   have next:∀ k' o' pre' st,LeS st (ownI c links i o' [(6,iv (links.getD i default))])→owe_court_owners_c1 c links=pre'++ownersL c (ownLast links) (links.drop (i+1)) (ownTo c links i o'.state)→pre'.length=k'→G (X.g TT Tryz.f85 (X.H k')) (.code ownR9 :: ownK9) st:=by
    intro k' o' pre' st hst h' hk'
    refine .le hst ?_
    refine ItX.sk tok mixed Tryz.func85 _ (ownS2 c links i) (fun _=>.go [.inLoop ownL,.inBlock 0,.code ownR11] (ownI c links (i+1) (ownTo c links i o'.state) [])) 100 (by kernel_rfl) ?_ (fun _ _=>.inLoop (ih (i+1) (by omega) k' _ pre' h' hk'))
    refine Sk.obs_of _ ?_
    simp only [ownS2,Sk.obq,Cal.z,Cal.p,ixP,maxLen]
    have q1:=hp.2.1 i hlt
    have q2:=hp.1
    refine fun _=>⟨by omega,fun _ _ _=>⟨trivial,fun _ _ _=>⟨?_,trivial⟩⟩⟩
    refine (w64_id ?_ ?_).trans ?_ <;> omega
   refine ItX.sk tok mixed Tryz.func85 _ (ownS1 c links i) (ownLf c links i o) 100 (by kernel_rfl) ?_ ?_
   ·refine Sk.obs_of _ ?_
    have q2:=hp.1
    have q3:=hp.2.2 i hlt
    have e:w64 (((links.length:Nat):Int) - 1)=((links.length:Nat):Int) - 1:=w64_id (by omega) (by omega)
    simp only [ownS1,Sk.obq,Cal.p,Cal.z,Cal.andl,Ctr.c,kk,ixP,maxLen,e,implies_true,true_and,and_true,and_self]
    exact fun _ _=>⟨by omega,fun _ _ _=>⟨by omega,q3⟩⟩
   ·intro a ha
    have hv:(ownS1 c links i).val=bif owe_court_passes c (links.getD i default) (ownLast links) == 0 then none else bif owe_court_passes c (links.getD i default) (ownLast links) == 2 then some true else some false:=by
     have e:decide (((i:Nat):Int) < ((links.length:Nat):Int))=true:=decide_eq_true (by omega)
     simp only [ownS1,Sk.val,e,cond_true]
     rfl
    rw [hv] at ha
    rw [hdrop] at h
    simp only [ownersL] at h
    cases h0:owe_court_passes c (links.getD i default) (ownLast links) == 0 with
    | true =>
     rw [h0,cond_true] at ha h
     subst ha
     exact fin k o pre h hk
    | false =>
     rw [h0,cond_false] at ha h
     cases h2:owe_court_passes c (links.getD i default) (ownLast links) == 2 with
     | true =>
      rw [h2,cond_true] at ha h
      subst ha
      show G _ _ _
      rw [hr8]
      refine G.yr ?_
      rw [hg8]
      refine YW.mvC (o:=ownOps8.getD 0 default) (d:=34) (u:=0) (by kernel_rfl) (by kernel_rfl) (by kernel_rfl) (by simp) (by kernel_rfl) ?_
      refine YW.opC tok mixed (o:=ownOps8.getD 1 default) (ownI c links i { o with state:=2 } [(35,av ({ o with state:=2 }:Owner).cells),(6,iv (links.getD i default))]) (by kernel_rfl) (by kernel_rfl) (by kernel_rfl) ?_
      refine YW.ylC (o:=ownOps8.getD 2 default) (d:=36) (u:=34) (n:=k) (ts:=[35]) (c:={ callee:=.value (.tmp 34),args:=#[.tmp 35],argTypes:=#[108] }) (by kernel_rfl) (by kernel_rfl) (by kernel_rfl) rfl (by simp) (by kernel_rfl) (hys k _ pre _ h hk) rfl (by kernel_rfl) (by kernel_rfl) ?_ ?_
      ·refine YW.opC tok mixed (o:=ownOps8.getD 3 default) (ownI c links i { o with state:=2 } [(37,bv false),(6,iv (links.getD i default))]) (by kernel_rfl) (by kernel_rfl) (by kernel_rfl) ?_
       refine YW.nil (T:=TT) (fn:=Tryz.f85) (by simp) ?_
       refine ItX.sk tok mixed Tryz.func85 _ (.brf (.fin ()):Sk Unit) (fun _=>.go (.code ownR9 :: ownK9) (ownI c links i { o with state:=2 } [(6,iv (links.getD i default))])) 100 (by kernel_rfl) trivial (fun _ _=>next (k+1) { o with state:=2 } (pre++[{ o with state:=2 }]) _ (fun _ _ _ h=>h) (by rw [h]; simp [ownTo]) (by simp [hk]))
      ·refine YW.opC tok mixed (o:=ownOps8.getD 3 default) (ownI c links i { o with state:=2 } [(37,bv true),(6,iv (links.getD i default))]) (by kernel_rfl) (by kernel_rfl) (by kernel_rfl) ?_
       refine YW.nil (T:=TT) (fn:=Tryz.f85) (by simp) ?_
       refine ItX.sk tok mixed Tryz.func85 _ (.brt (.fin ()):Sk Unit) (fun _=>.go (.code .ret :: .code ownR9 :: ownK9) ⟨[],[]⟩) 100 (by kernel_rfl) trivial (fun _ _=>(ItX.ret Tryz.func85 (by kernel_rfl) (fun C h=>.inr h)).2 _)
     | false =>
      rw [h2,cond_false] at ha h
      subst ha
      exact next k o pre _ (fun _ _ _ h=>h) h hk
 refine ItX.sk tok mixed Tryz.func85 _ (.r 0 .z fun _=>.r 1 .z fun _=>.fin ():Sk Unit) (fun _=>.go [.code (.loop ownL),.inBlock 0,.code ownR11] (ownI c links 0 { firm:=c.view.now.bill.payee,sign:=-1,state:=1 } [])) 100 (by kernel_rfl) ?_ (fun _ _=>.loopIn (key links.length 0 (by omega) 0 _ [] rfl rfl))
 refine Sk.obs_of _ ?_
 simp [Sk.obq,Cal.z]
noncomputable def owe_court_owners_c1_it (c:Court) (links:List Int):ItC Owner:=⟨Tryz.prog,85,[.ref c.cells,.ref [slD intC links]],owe_court_owners_c1 c links,ownEnc,ownPre c links,fun h=>owe_court_owners_c1_itA c links h⟩
end Go.Proofs.YtbcnlpcaajpclaaGreatDoor
