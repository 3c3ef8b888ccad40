/- Functions, as sketches. -/
import Derived.Test.YtihmmpaalpghbaaGreatDoorLg
set_option linter.unusedSimpArgs false
set_option linter.unusedVariables false
set_option maxHeartbeats 1000000
set_option maxRecDepth 100000
namespace Go.Proofs.YtihmmpaalpghbaaGreatDoor
noncomputable section
open Go Go.Av
/-! Hz reference reads a report -/
def st0 (a:ae):ae:={ reporter:=a.reporter,no:=a.no,day:=a.day,body:={ (default:Body) with kind:=a.body.kind,bill:=a.body.bill,index:=a.body.index } }
def Se (a:ae) (n:Int):ae:=if a.body.kind≤n then a else st0 a
def RJ (l:List Int) (n:Int) (b:ae):Prop:=b.dT∧∀ a,au a=true→jJ a=l→b=Se a n
def Wx (s:ByteArray) (x:ae × Bool):Prop:=(x.2=true→(eY x.1).data.toList=s.data.toList∧s.data.toList≠[]∧x.1.dT)∧(x.2=false→x.1=Mw)∧∀ a,a.dT→au a=true→E9 a=s.data.toList→x=(a,true)
theorem Up {m:List Int} (h:∀ n∈m,aK n) (i:Int):aK (bU m i):=by
  have e:bU m i=bif decide (i≥((m.length:Nat):Int)) then 0 else m.getD i.toNat default:=rfl
  rw [e]
  cases hd:decide (i≥((m.length:Nat):Int)) with
  | true=>rw [cond_true]; exact ⟨by decide,by decide⟩
  | false =>
    have hd:=of_decide_eq_false hd
    rw [cond_false]
    by_cases hi:i.toNat < m.length
    · rw [show m.getD i.toNat default=m[i.toNat] by simp [List.getD,hi]]
      exact h _ (List.getElem_mem hi)
    · rw [show m.getD i.toNat default=0 by simp [List.getD,Nat.not_lt.1 hi]]
      exact ⟨by decide,by decide⟩
theorem P8 {l:List Int} (h:∀ n∈l,aK n) (hl:6≤l.length):∀ n∈dz l 6 (l.length - 6),aK n:=fun n hn=>h n (by rw [abq hl]; exact List.mem_append_right _ hn)
/-- a right report,by its kind -/
theorem jP {a:ae} (h:au a=true):(∃ r n d b p fl,a = { reporter:=r,no:=n,day:=d,body:={ (default:Body) with kind:=0,bill:=b,index:=0,aw:=p,sign:={ (default:Sign) with flags:=fl } } })∨(∃ r n d b ix s,a = { reporter:=r,no:=n,day:=d,body:={ (default:Body) with kind:=1,bill:=b,index:=ix,sign:=s } })∨(∃ r n d b ix s,a = { reporter:=r,no:=n,day:=d,body:={ (default:Body) with kind:=2,bill:=b,index:=ix,act:=s } })∨(∃ r n d b ix s,a = { reporter:=r,no:=n,day:=d,body:={ (default:Body) with kind:=3,bill:=b,index:=ix,alter:=s } })∨(∃ r n d b s,a = { reporter:=r,no:=n,day:=d,body:={ (default:Body) with kind:=4,bill:=b,index:=0,fact:=s } }):=by
  have h:=(wK a).1 h
  obtain ⟨r,n,d,bo⟩:=a
  obtain ⟨-,-,-,-,h⟩:=h
  simp only at h
  rcases h with ⟨-,hb,-⟩ | ⟨-,hb,-⟩ | ⟨-,hb,-⟩ | ⟨-,hb,-⟩ | ⟨-,hb⟩
  · exact .inl ⟨r,n,d,_,_,_,congrArg (fun q=>(⟨r,n,d,q⟩:ae)) hb⟩
  · exact .inr (.inl ⟨r,n,d,_,_,_,congrArg (fun q=>(⟨r,n,d,q⟩:ae)) hb⟩)
  · exact .inr (.inr (.inl ⟨r,n,d,_,_,_,congrArg (fun q=>(⟨r,n,d,q⟩:ae)) hb⟩))
  · exact .inr (.inr (.inr (.inl ⟨r,n,d,_,_,_,congrArg (fun q=>(⟨r,n,d,q⟩:ae)) hb⟩)))
  · exact .inr (.inr (.inr (.inr ⟨r,n,d,_,_,congrArg (fun q=>(⟨r,n,d,q⟩:ae)) hb⟩)))
theorem Uq {a:ae} {n m:Int} (h:¬ (n < a.body.kind∧a.body.kind≤m)) (hm:n≤m):Se a m=Se a n:=by
  unfold Se
  by_cases h1:a.body.kind≤n
  · rw [if_pos h1,if_pos (by omega)]
  · rw [if_neg h1,if_neg (by omega)]
theorem MG {a:ae} (h:au a=true):Se a 4=a:=by
  have:=qE h
  unfold Se
  rw [if_pos (by omega)]
/-- a aef NC aeA nothing -/
theorem RJ.skip {l:List Int} {n m:Int} {b:ae} (h:RJ l n b) (R5:m=n+1) (hk:(l.getD 3 default == m)=false):RJ l m b:=by
  refine ⟨h.1,fun a ha e=>?_⟩
  rw [h.2 a ha e,Uq (n:=n) (m:=m) (fun hh=>?_) (by omega)]
  have:=(Uj a).2.2.2.2.1
  rw [e] at this
  rw [this] at hk
  have hk:a.body.kind≠m:=by simpa using hk
  omega
theorem ae.dT.mk' {x:ae} (h1:aK x.reporter) (h2:aK x.no) (h3:aK x.day) (h4:aK x.body.kind) (h5:aK x.body.bill) (h6:aK x.body.index) (hp:x.body.aw.cells.all yb=true) (hs:x.body.sign.cells.all yb=true) (ha:x.body.act.cells.all yb=true) (hl:x.body.alter.cells.all yb=true) (hf:x.body.fact.cells.all yb=true):x.dT:=by
  unfold ae.dT ae.cells Body.cells
  simp only [List.all_append,List.all_cons,List.all_nil,oX,Bool.and_eq_true,decide_eq_true_eq,Bool.and_true]
  exact ⟨⟨h1,h2,h3⟩,⟨⟨⟨⟨⟨h4,h5,h6⟩,hp⟩,hs⟩,ha⟩,hl⟩,hf⟩
theorem Ur {b:ae} (h:b.dT) {s:Sign} (hs:s.cells.all yb=true):({ b with body:={ b.body with sign:=s } }:ae).dT:=by
  obtain ⟨p1,p2,p3,p4⟩:=h.parts
  obtain ⟨q1,q2,q3,q4,q5,q6,q7,q8⟩:=p4.parts
  exact ae.dT.mk' p1 p2 p3 q1 q2 q3 q4 hs q6 q7 q8
theorem Wy {b:ae} (h:b.dT) {s:cd} (hs:s.cells.all yb=true):({ b with body:={ b.body with act:=s } }:ae).dT:=by
  obtain ⟨p1,p2,p3,p4⟩:=h.parts
  obtain ⟨q1,q2,q3,q4,q5,q6,q7,q8⟩:=p4.parts
  exact ae.dT.mk' p1 p2 p3 q1 q2 q3 q4 q5 hs q7 q8
theorem Ru {b:ae} (h:b.dT) {s:bB} (hs:s.cells.all yb=true):({ b with body:={ b.body with alter:=s } }:ae).dT:=by
  obtain ⟨p1,p2,p3,p4⟩:=h.parts
  obtain ⟨q1,q2,q3,q4,q5,q6,q7,q8⟩:=p4.parts
  exact ae.dT.mk' p1 p2 p3 q1 q2 q3 q4 q5 q6 hs q8
theorem Us {b:ae} (h:b.dT) {s:Fact} (hs:s.cells.all yb=true):({ b with body:={ b.body with fact:=s } }:ae).dT:=by
  obtain ⟨p1,p2,p3,p4⟩:=h.parts
  obtain ⟨q1,q2,q3,q4,q5,q6,q7,q8⟩:=p4.parts
  exact ae.dT.mk' p1 p2 p3 q1 q2 q3 q4 q5 q6 q7 hs
theorem MH {s:Sign} (h1:aK s.kind) (h2:aK s.part) (h3:aK s.fu) (h4:aK s.for_) (h5:aK s.cH) (h6:aK s.sum) (h7:aK s.day) (h8:aK s.bn) (h9:aK s.flags):s.cells.all yb=true:=by
  unfold Sign.cells
  simp only [List.all_append,List.all_cons,List.all_nil,oX,Bool.and_eq_true,decide_eq_true_eq,Bool.and_true]
  exact ⟨h1,h2,h3,h4,h5,h6,h7,h8,h9⟩
theorem Wz {s:cd} (h1:aK s.kind) (h2:aK s.fu) (h3:aK s.cH) (h4:aK s.part) (h5:aK s.at_) (h6:aK s.sum) (h7:aK s.day) (h8:aK s.bn) (h9:aK s.form):s.cells.all yb=true:=by
  unfold cd.cells
  simp only [List.all_append,List.all_cons,List.all_nil,oX,Bool.and_eq_true,decide_eq_true_eq,Bool.and_true]
  exact ⟨h1,h2,h3,h4,h5,h6,h7,h8,h9⟩
theorem Rv {s:bB} (h1:aK s.at_) (h2:aK s.sum):s.cells.all yb=true:=by
  unfold bB.cells
  simp only [List.all_append,List.all_cons,List.all_nil,oX,Bool.and_eq_true,decide_eq_true_eq,Bool.and_true]
  exact ⟨h1,h2⟩
theorem Rw {s:Fact} (h1:aK s.kind) (h2:aK s.at_) (h3:aK s.n):s.cells.all yb=true:=by
  unfold Fact.cells
  simp only [List.all_append,List.all_cons,List.all_nil,oX,Bool.and_eq_true,decide_eq_true_eq,Bool.and_true]
  exact ⟨h1,h2,h3⟩
theorem MI {a:ae} {l:List Int} (e:jJ a=l) {k:Int} (h:(l.getD 3 default == k)=true):a.body.kind=k:=by
  have:=(Uj a).2.2.2.2.1
  rw [← this,e]
  simpa using h
theorem Rx {a:ae} (h:au a=true) (hk:a.body.kind=1):∃ r n d b ix s,a = { reporter:=r,no:=n,day:=d,body:={ (default:Body) with kind:=1,bill:=b,index:=ix,sign:=s } }:=by
  rcases jP h with ⟨r,n,d,b,p,fl,rfl⟩ | h | ⟨r,n,d,b,ix,s,rfl⟩ | ⟨r,n,d,b,ix,s,rfl⟩ | ⟨r,n,d,b,s,rfl⟩
  · exact absurd hk (show ¬ (0:Int)=1 by decide)
  · exact h
  · exact absurd hk (show ¬ (2:Int)=1 by decide)
  · exact absurd hk (show ¬ (3:Int)=1 by decide)
  · exact absurd hk (show ¬ (4:Int)=1 by decide)
theorem Ry {a:ae} (h:au a=true) (hk:a.body.kind=0):∃ r n d b p fl,a = { reporter:=r,no:=n,day:=d,body:={ (default:Body) with kind:=0,bill:=b,index:=0,aw:=p,sign:={ (default:Sign) with flags:=fl } } }:=by
  rcases jP h with h | ⟨r,n,d,b,ix,s,rfl⟩ | ⟨r,n,d,b,ix,s,rfl⟩ | ⟨r,n,d,b,ix,s,rfl⟩ | ⟨r,n,d,b,s,rfl⟩
  · exact h
  · exact absurd hk (show ¬ (1:Int)=0 by decide)
  · exact absurd hk (show ¬ (2:Int)=0 by decide)
  · exact absurd hk (show ¬ (3:Int)=0 by decide)
  · exact absurd hk (show ¬ (4:Int)=0 by decide)
theorem Ut {a:ae} (h:au a=true) (hk:a.body.kind=2):∃ r n d b ix s,a = { reporter:=r,no:=n,day:=d,body:={ (default:Body) with kind:=2,bill:=b,index:=ix,act:=s } }:=by
  rcases jP h with ⟨r,n,d,b,p,fl,rfl⟩ | ⟨r,n,d,b,ix,s,rfl⟩ | h | ⟨r,n,d,b,ix,s,rfl⟩ | ⟨r,n,d,b,s,rfl⟩
  · exact absurd hk (show ¬ (0:Int)=2 by decide)
  · exact absurd hk (show ¬ (1:Int)=2 by decide)
  · exact h
  · exact absurd hk (show ¬ (3:Int)=2 by decide)
  · exact absurd hk (show ¬ (4:Int)=2 by decide)
theorem OZ {a:ae} (h:au a=true) (hk:a.body.kind=3):∃ r n d b ix s,a = { reporter:=r,no:=n,day:=d,body:={ (default:Body) with kind:=3,bill:=b,index:=ix,alter:=s } }:=by
  rcases jP h with ⟨r,n,d,b,p,fl,rfl⟩ | ⟨r,n,d,b,ix,s,rfl⟩ | ⟨r,n,d,b,ix,s,rfl⟩ | h | ⟨r,n,d,b,s,rfl⟩
  · exact absurd hk (show ¬ (0:Int)=3 by decide)
  · exact absurd hk (show ¬ (1:Int)=3 by decide)
  · exact absurd hk (show ¬ (2:Int)=3 by decide)
  · exact h
  · exact absurd hk (show ¬ (4:Int)=3 by decide)
theorem Rz {a:ae} (h:au a=true) (hk:a.body.kind=4):∃ r n d b s,a = { reporter:=r,no:=n,day:=d,body:={ (default:Body) with kind:=4,bill:=b,index:=0,fact:=s } }:=by
  rcases jP h with ⟨r,n,d,b,p,fl,rfl⟩ | ⟨r,n,d,b,ix,s,rfl⟩ | ⟨r,n,d,b,ix,s,rfl⟩ | ⟨r,n,d,b,ix,s,rfl⟩ | h
  · exact absurd hk (show ¬ (0:Int)=4 by decide)
  · exact absurd hk (show ¬ (1:Int)=4 by decide)
  · exact absurd hk (show ¬ (2:Int)=4 by decide)
  · exact absurd hk (show ¬ (3:Int)=4 by decide)
  · exact h
abbrev mL (l:List Int):List Int:=dz l 6 (l.length - 6)
theorem RJ.sign {l:List Int} {b:ae} (h:RJ l 0 b) (hI:∀ i,aK (bU (mL l) i)) (hk:(l.getD 3 default == 1)=true):RJ l 1 { b with body:={ b.body with sign:=({ kind:=bU (mL l) 0,part:=bU (mL l) 1,fu:=bU (mL l) 2,for_:=bU (mL l) 3,cH:=bU (mL l) 4,sum:=bU (mL l) 5,day:=bU (mL l) 6,bn:=bU (mL l) 7,flags:=bU (mL l) 8 }:Sign) } }:=by
  refine ⟨Ur h.1 (MH (hI _) (hI _) (hI _) (hI _) (hI _) (hI _) (hI _) (hI _) (hI _)),fun a ra ea=>?_⟩
  obtain ⟨r,n,d,b',ix,s,rfl⟩:=Rx ra (MI ea hk)
  rw [h.2 _ ra ea,← ea]
  unfold Se
  rw [if_neg (show ¬ (1:Int)≤0 by decide),if_pos (show (1:Int)≤1 by decide)]
  rfl
theorem RJ.act {l:List Int} {b:ae} (h:RJ l 1 b) (hI:∀ i,aK (bU (mL l) i)) (hk:(l.getD 3 default == 2)=true):RJ l 2 { b with body:={ b.body with act:=({ kind:=bU (mL l) 0,fu:=bU (mL l) 1,cH:=bU (mL l) 2,part:=bU (mL l) 3,at_:=bU (mL l) 4,sum:=bU (mL l) 5,day:=bU (mL l) 6,bn:=bU (mL l) 7,form:=bU (mL l) 8 }:cd) } }:=by
  refine ⟨Wy h.1 (Wz (hI _) (hI _) (hI _) (hI _) (hI _) (hI _) (hI _) (hI _) (hI _)),fun a ra ea=>?_⟩
  obtain ⟨r,n,d,b',ix,s,rfl⟩:=Ut ra (MI ea hk)
  rw [h.2 _ ra ea,← ea]
  unfold Se
  rw [if_neg (show ¬ (2:Int)≤1 by decide),if_pos (show (2:Int)≤2 by decide)]
  rfl
theorem RJ.alter {l:List Int} {b:ae} (h:RJ l 2 b) (hI:∀ i,aK (bU (mL l) i)) (hk:(l.getD 3 default == 3)=true):RJ l 3 { b with body:={ b.body with alter:=({ at_:=bU (mL l) 0,sum:=bU (mL l) 1 }:bB) } }:=by
  refine ⟨Ru h.1 (Rv (hI _) (hI _)),fun a ra ea=>?_⟩
  obtain ⟨r,n,d,b',ix,s,rfl⟩:=OZ ra (MI ea hk)
  rw [h.2 _ ra ea,← ea]
  unfold Se
  rw [if_neg (show ¬ (3:Int)≤2 by decide),if_pos (show (3:Int)≤3 by decide)]
  rfl
theorem RJ.fact {l:List Int} {b:ae} (h:RJ l 3 b) (hI:∀ i,aK (bU (mL l) i)) (hk:(l.getD 3 default == 4)=true):RJ l 4 { b with body:={ b.body with fact:=({ kind:=bU (mL l) 0,at_:=bU (mL l) 1,n:=bU (mL l) 2 }:Fact) } }:=by
  refine ⟨Us h.1 (Rw (hI _) (hI _) (hI _)),fun a ra ea=>?_⟩
  obtain ⟨r,n,d,b',s,rfl⟩:=Rz ra (MI ea hk)
  rw [h.2 _ ra ea,← ea]
  unfold Se
  rw [if_neg (show ¬ (4:Int)≤3 by decide),if_pos (show (4:Int)≤4 by decide)]
  rfl
theorem RJ.base {l:List Int} (hg:∀ j,j < 6→aK (l.getD j default)) (hk:(l.getD 3 default == 0)=false):RJ l 0 { reporter:=l.getD 0 default,no:=l.getD 1 default,day:=l.getD 2 default,body:={ (default:Body) with kind:=l.getD 3 default,bill:=l.getD 4 default,index:=l.getD 5 default } }:=by
  refine ⟨ae.dT.mk' (hg 0 (by decide)) (hg 1 (by decide)) (hg 2 (by decide)) (hg 3 (by decide)) (hg 4 (by decide)) (hg 5 (by decide)) rfl rfl rfl rfl rfl,fun a ra ea=>?_⟩
  have Py:¬ a.body.kind≤0:=by
    have:=(Uj a).2.2.2.2.1
    rw [ea] at this
    rw [this] at hk
    have h0:=qE ra
    have hk:a.body.kind≠0:=by simpa using hk
    omega
  rw [← ea]
  unfold Se
  rw [if_neg Py]
  rfl
theorem Uu {s:dV} (h1:aK s.cD) (h2:aK s.cL) (h3:aK s.cE) (h4:aK s.sum) (h5:aK s.bh) (h6:aK s.bp.kind) (h7:aK s.bp.n) (h8:aK s.bp.unit) (h9:aK s.day) (h10:aK s.bn) (h11:aK s.tE) (h12:aK s.need) (h13:aK s.iR) (h14:aK s.flags) (h15:aK s.parts):s.cells.all yb=true:=by
  unfold dV.cells fc.cells
  simp only [List.all_append,List.all_cons,List.all_nil,oX,Bool.and_eq_true,decide_eq_true_eq,Bool.and_true]
  exact ⟨⟨⟨h1,h2,h3,h4,h5⟩,h6,h7,h8⟩,h9,h10,h11,h12,h13,h14,h15⟩
theorem MJ:aK 0:=by decide
theorem RJ.bill {l:List Int} (hg:∀ j,j < 6→aK (l.getD j default)) (hI:∀ i,aK (bU (mL l) i)) (hk:(l.getD 3 default == 0)=true):RJ l 0 { reporter:=l.getD 0 default,no:=l.getD 1 default,day:=l.getD 2 default,body:={ (default:Body) with kind:=l.getD 3 default,bill:=l.getD 4 default,index:=l.getD 5 default,aw:=({ cD:=bU (mL l) 0,cL:=bU (mL l) 1,cE:=bU (mL l) 2,sum:=bU (mL l) 3,bh:=bU (mL l) 4,bp:=({ kind:=bU (mL l) 5,n:=bU (mL l) 6,unit:=bU (mL l) 7 }:fc),day:=bU (mL l) 8,bn:=bU (mL l) 9,tE:=bU (mL l) 10,need:=bU (mL l) 11,iR:=bU (mL l) 12,flags:=bU (mL l) 13,parts:=bU (mL l) 14 }:dV),sign:={ (default:Sign) with flags:=bU (mL l) 15 } } }:=by
  refine ⟨ae.dT.mk' (hg 0 (by decide)) (hg 1 (by decide)) (hg 2 (by decide)) (hg 3 (by decide)) (hg 4 (by decide)) (hg 5 (by decide)) (Uu (hI _) (hI _) (hI _) (hI _) (hI _) (hI _) (hI _) (hI _) (hI _) (hI _) (hI _) (hI _) (hI _) (hI _) (hI _)) (MH MJ MJ MJ MJ MJ MJ MJ MJ (hI _)) rfl rfl rfl,fun a ra ea=>?_⟩
  obtain ⟨r,n,d,b',p,fl,rfl⟩:=Ry ra (MI ea hk)
  rw [← ea]
  unfold Se
  rw [if_pos (show (0:Int)≤0 by decide)]
  rfl

def lZ (s:ByteArray):Sk (ae × Bool):=let yH:=({ kind:=0,n:=0,unit:=0 }:fc); let Jv:=({ cD:=0,cL:=0,cE:=0,sum:=0,bh:=0,bp:=yH,day:=0,bn:=0,tE:=0,need:=0,iR:=0,flags:=0,parts:=0 }:dV); let yI:=({ at_:=0,sum:=0 }:bB); let lU:=({ kind:=0,at_:=0,n:=0 }:Fact); let dm:=({ kind:=0,part:=0,fu:=0,for_:=0,cH:=0,sum:=0,day:=0,bn:=0,flags:=0 }:Sign); let bF:=({ kind:=0,fu:=0,cH:=0,part:=0,at_:=0,sum:=0,day:=0,bn:=0,form:=0 }:cd); let L5:=({ kind:=0,bill:=0,index:=0,aw:=Jv,sign:=dm,act:=bF,alter:=yI,fact:=lU }:Body); let Ra:=(({ reporter:=0,no:=0,day:=0,body:=L5 }:ae),false);
 .r 1 ((Fp s).c) fun x1=>let abt:=((x1.1.length:Nat):Int); let Ju:=(x1.1.getD 3 default); let eX:=(cM (3:Int) x1.1.length); let aC:=(dz x1.1 6 (x1.1.length - 6)); let Zj:=(fw aC 8); let Zk:=(fw aC 7); let Zl:=((fw aC 6).c); let Zm:=((fw aC 5).c); let Q9:=((fw aC 4).c); let Oz:=((fw aC 3).c); let L4:=(fw aC 2); let uW:=(fw aC 1); let l8:=((fw aC 0).c);
 .br (((!x1.2.2)||(!(x1.2.1.toList == (⟨#[]⟩:ByteArray).toList)))||(decide (abt < 6)))
 (.fin Ra)
 (.r 4 (.ak (.p (cM (0:Int) x1.1.length)) (.ak (.p (cM (1:Int) x1.1.length)) (.ak (.p (cM (2:Int) x1.1.length)) (.ak (.p eX) (.ak (.p (cM (4:Int) x1.1.length)) (.p (cM (5:Int) x1.1.length))))))) fun _ =>
 .r 5 (.ak (.o [.dU (TQ eJ x1.1 6 (x1.1.length - 6))]) (.pt (0≤(6:Int)∧6≤abt) (eJ.lens x1.1))) fun _ =>
 .r 6 (.p eX) fun _ =>
 .bind false (fun b2=>RJ x1.1 0 b2)
 (.br (Ju == 0)
 (.r 7 (.dep l8 fun _=>.dep (uW.c) fun _=>.dep (L4.c) fun _=>.dep Oz fun _=>.dep Q9 fun _=>.dep Zm fun _=>.dep Zl fun _=>Zk.c) fun KF =>
 .r 8 (Zj.c) fun JK =>
 .r 9 ((fw aC 9).c) fun Wn =>
 .r 10 ((fw aC 10).c) fun Ze =>
 .r 11 ((fw aC 11).c) fun x14 =>
 .r 12 ((fw aC 12).c) fun yo =>
 .r 13 ((fw aC 13).c) fun Mn =>
 .r 14 ((fw aC 14).c) fun O0 =>
 .r 16 ((fw aC 15).c) fun P4 =>
 .fin (.inr ({ reporter:=x1.1.getD 0 default,no:=x1.1.getD 1 default,day:=x1.1.getD 2 default,body:=({ kind:=x1.1.getD 3 default,bill:=x1.1.getD 4 default,index:=x1.1.getD 5 default,aw:=({ cD:=KF.1,cL:=KF.2.1,cE:=KF.2.2.1,sum:=KF.2.2.2.1,bh:=KF.2.2.2.2.1,bp:=({ kind:=KF.2.2.2.2.2.1,n:=KF.2.2.2.2.2.2.1,unit:=KF.2.2.2.2.2.2.2 }:fc),day:=JK,bn:=Wn,tE:=Ze,need:=x14,iR:=yo,flags:=Mn,parts:=O0 }:dV),sign:=({ kind:=0,part:=0,fu:=0,for_:=0,cH:=0,sum:=0,day:=0,bn:=0,flags:=P4 }:Sign),act:=bF,alter:=yI,fact:=lU }:Body) }:ae)))
 (.fin (.inr ({ reporter:=x1.1.getD 0 default,no:=x1.1.getD 1 default,day:=x1.1.getD 2 default,body:=({ kind:=x1.1.getD 3 default,bill:=x1.1.getD 4 default,index:=x1.1.getD 5 default,aw:=Jv,sign:=dm,act:=bF,alter:=yI,fact:=lU }:Body) }:ae))))
 (fun (b2:ae)=>⟨[],[(7,.box (b2.cells.map .d))]⟩) fun b2 =>
 .r 17 (.p eX) fun _ =>
 .bind false (fun sa=>RJ x1.1 1 sa)
 (.br (Ju == 1)
 (.r 18 (.dep l8 fun _=>.dep (uW.c) fun _=>.dep (L4.c) fun _=>.dep Oz fun _=>.dep Q9 fun _=>.dep Zm fun _=>.dep Zl fun _=>.dep (Zk.c) fun _=>Zj.c) fun MK =>
 .fin (.inr ({ b2 with body:={ b2.body with sign:=({ kind:=MK.1,part:=MK.2.1,fu:=MK.2.2.1,for_:=MK.2.2.2.1,cH:=MK.2.2.2.2.1,sum:=MK.2.2.2.2.2.1,day:=MK.2.2.2.2.2.2.1,bn:=MK.2.2.2.2.2.2.2.1,flags:=MK.2.2.2.2.2.2.2.2 }:Sign) } })))
 (.fin (.inr b2)))
 (fun (sa:ae)=>⟨[],[(7,.box (sa.cells.map .d))]⟩) fun sa =>
 .r 19 (.p eX) fun _ =>
 .bind false (fun WA=>RJ x1.1 2 WA)
 (.br (Ju == 2)
 (.r 20 (.dep l8 fun _=>.dep (uW.c) fun _=>.dep (L4.c) fun _=>.dep Oz fun _=>.dep Q9 fun _=>.dep Zm fun _=>.dep Zl fun _=>.dep (Zk.c) fun _=>Zj.c) fun WB =>
 .fin (.inr ({ sa with body:={ sa.body with act:=({ kind:=WB.1,fu:=WB.2.1,cH:=WB.2.2.1,part:=WB.2.2.2.1,at_:=WB.2.2.2.2.1,sum:=WB.2.2.2.2.2.1,day:=WB.2.2.2.2.2.2.1,bn:=WB.2.2.2.2.2.2.2.1,form:=WB.2.2.2.2.2.2.2.2 }:cd) } })))
 (.fin (.inr sa)))
 (fun (WA:ae)=>⟨[],[(7,.box (WA.cells.map .d))]⟩) fun WA =>
 .r 21 (.p eX) fun _ =>
 .bind false (fun WC=>RJ x1.1 3 WC)
 (.br (Ju == 3)
 (.r 22 (.dep l8 fun _=>uW.c) fun p45 =>
 .fin (.inr ({ WA with body:={ WA.body with alter:=({ at_:=p45.1,sum:=p45.2 }:bB) } })))
 (.fin (.inr WA)))
 (fun (WC:ae)=>⟨[],[(7,.box (WC.cells.map .d))]⟩) fun WC =>
 .r 23 (.p eX) fun _ =>
 .bind false (fun P9=>RJ x1.1 4 P9)
 (.br (Ju == 4)
 (.r 24 (.dep l8 fun _=>.dep (uW.c) fun _=>L4.c) fun p50 =>
 .fin (.inr ({ WC with body:={ WC.body with fact:=({ kind:=p50.1,at_:=p50.2.1,n:=p50.2.2 }:Fact) } })))
 (.fin (.inr WC)))
 (fun (P9:ae)=>⟨[],[(7,.box (P9.cells.map .d))]⟩) fun P9 =>
 .r 25 ((uw P9).c) fun x51 =>
 .br ((!(x51.toList == s.toList))||(s.toList == (⟨#[]⟩:ByteArray).toList))
 (.fin Ra)
 (.fin (P9,true)))
def mw s:=(lZ s).val
theorem RA {s:ByteArray} (hs:s.size≤1000000) (h:Wx s (mw s)):mw s=bV s:=by
  obtain ⟨h1,h2,h3⟩:=h
  cases hp:(bV s).2 with
  | true =>
    obtain ⟨q1,q2,q3,q4⟩:=Be hs (a:=(bV s).1) (by rw [← hp])
    rw [h3 _ q3 q1 q2,← hp]
  | false =>
    have hz:bV s=(Mw,false):=by rw [← Wt hp,← hp]
    cases hr:(mw s).2 with
    | false=>rw [hz,← h2 hr,← hr]
    | true =>
      exfalso
      obtain ⟨g1,g2,g3⟩:=h1 hr
      rw [sV g3] at g1
      have hR:au (mw s).1=true:=by
        cases hq:au (mw s).1 with
        | true=>rfl
        | false =>
          rw [yk hq] at g1
          exact absurd g1.symm g2
      have e:bg (mw s).1=s:=by
        apply ByteArray.ext
        apply Array.ext'
        exact g1
      have:=Bd g3 hR
      rw [e,hz] at this
      exact Bool.false_ne_true (congrArg Prod.snd this)

theorem JX (s:ByteArray) (hP:s.size≤1000000):(lZ s).dj (fun (x:ae × Bool)=>Wx s x):=by
  unfold lZ
  have hs:=hP
  refine fun x1 e1 k1=>⟨fun hc=>?_,fun hc=>?_⟩
  · have k1:GN s.data.toList x1:=k1 hs
    refine ⟨fun h=>(by cases h),fun _=>rfl,fun a ia ra ta=>?_⟩
    exfalso
    have:=GN.eq k1 (l:=jJ a) (r:=[]) (by have:=jK a; omega) (jL ia) (by rw [List.append_nil,← ta,ke ra])
    rw [this] at hc
    have h6:=(Uj a).1
    simp at hc
    omega
  have k1:GN s.data.toList x1:=k1 hs
  simp only [Bool.or_eq_false_iff,Bool.not_eq_false',decide_eq_false_iff_not] at hc
  obtain ⟨⟨c1,c2⟩,c3⟩:=hc
  obtain ⟨q1,q2,q3⟩:=k1.1 c1
  have hl6:6≤x1.1.length:=by omega
  have hm:=P8 q3 hl6
  have hI:=fun i=>Up hm i
  have hg:∀ j,j < 6→aK (x1.1.getD j default):=fun j hj=>q3 _ (oD (by omega) default)
  refine fun _ _ _=>fun _ _ _=>fun _ _ _=>⟨⟨fun hk=>?_,fun hk=>?_⟩,fun b2 _ h2=>?_⟩
  · intro KF qP _ JK XL _ Wn ML _ Ze e13 _ x14 e14 _ yo XM _ Mn WD _ O0 e17 _ P4 O1 _
    subst qP XL ML e13 e14 XM WD e17 O1
    exact RJ.bill hg hI hk
  · exact RJ.base hg hk
  refine fun _ _ _=>⟨⟨fun hk=>?_,fun hk=>h2.skip rfl hk⟩,fun sa _ Uv=>fun _ _ _=>⟨⟨fun hk=>?_,fun hk=>Uv.skip rfl hk⟩,fun WA _ h31=>fun _ _ _=>⟨⟨fun hk=>?_,fun hk=>h31.skip rfl hk⟩,fun WC _ h42=>fun _ _ _=>⟨⟨fun hk=>?_,fun hk=>h42.skip rfl hk⟩,fun P9 _ WE=>fun x51 e51 _=>⟨fun hd=>?_,fun hd=>?_⟩⟩⟩⟩⟩
  · intro p e _
    subst e
    exact RJ.sign h2 hI hk
  · intro p e _
    subst e
    exact RJ.act Uv hI hk
  · intro p e _
    subst e
    exact RJ.alter h31 hI hk
  · intro p e _
    subst e
    exact RJ.fact h42 hI hk
  · have WE:RJ x1.1 4 P9:=WE
    refine ⟨fun h=>(by cases h),fun _=>rfl,fun a ia ra ta=>?_⟩
    exfalso
    have e:=GN.eq k1 (l:=jJ a) (r:=[]) (by have:=jK a; omega) (jL ia) (by rw [List.append_nil,← ta,ke ra])
    have hb:P9=a:=(WE.2 a ra (by rw [e])).trans (MG ra)
    have ht:x51=bg a:=(show x51=eY P9 from e51).trans (by rw [hb]; exact sV ia)
    have gN:=(Be (s:=bg a) (by have:=Ic ia; omega) (Bd ia ra)).2.2.2
    have Yy:(bg a).data.toList=s.data.toList:=ta
    simp only [Bool.or_eq_true,Bool.not_eq_true',beq_eq_false_iff_ne,beq_iff_eq,ByteArray.toList_eq] at hd
    rw [ht] at hd
    rcases hd with hd | hd
    · exact hd Yy
    · rw [Yy,hd] at gN
      exact gN rfl
  · have WE:RJ x1.1 4 P9:=WE
    simp only [Bool.or_eq_false_iff,Bool.not_eq_false',beq_eq_false_iff_ne,beq_iff_eq,ByteArray.toList_eq] at hd
    have ht:x51=eY P9:=e51
    refine ⟨fun _=>⟨by rw [← ht]; exact hd.1,hd.2,WE.1⟩,fun h=>(by cases h),fun a ia ra ta=>?_⟩
    have e:=GN.eq k1 (l:=jJ a) (r:=[]) (by have:=jK a; omega) (jL ia) (by rw [List.append_nil,← ta,ke ra])
    have hb:P9=a:=(WE.2 a ra (by rw [e])).trans (MG ra)
    rw [hb]

theorem G5 (s:ByteArray):(fun (x:ae × Bool)=>(s.size≤1000000)→(Wx s x)) (mw s):=fun hP=>have h:=Sk.cN _ (JX s hP); h
theorem MM (s:ByteArray) (hs:s.size≤1000000):(lZ s).bO (fun _=>True):=by
  unfold lZ
  refine ⟨hs,fun x1 e1 k1=>⟨fun _=>trivial,fun hc=>?_⟩⟩
  have k1:GN s.data.toList x1:=k1 hs
  simp only [Bool.or_eq_false_iff,Bool.not_eq_false',decide_eq_false_iff_not] at hc
  obtain ⟨⟨c1,c2⟩,c3⟩:=hc
  obtain ⟨q1,q2,q3⟩:=k1.1 c1
  have hl6:6≤x1.1.length:=by omega
  have hm:=P8 q3 hl6
  have hI:=fun i=>Up hm i
  have hg:∀ j,j < 6→aK (x1.1.getD j default):=fun j hj=>q3 _ (oD (by omega) default)
  have ix:∀ j:Nat,j < 6→cM (j:Int) x1.1.length:=fun j hj=>⟨by omega,by omega⟩
  refine ⟨⟨ix 0 (by decide),ix 1 (by decide),ix 2 (by decide),ix 3 (by decide),ix 4 (by decide),ix 5 (by decide)⟩,fun _ _ _=>⟨⟨trivial,⟨Int.natCast_nonneg 6,by omega⟩⟩,fun _ _ _=>⟨ix 3 (by decide),fun _ _ _=>⟨⟨fun hk=>?_,fun hk=>RJ.base hg hk⟩,fun b2 _ h2=>⟨ix 3 (by decide),fun _ _ _=>⟨⟨fun hk=>?_,fun hk=>h2.skip rfl hk⟩,fun sa _ Uv=>⟨ix 3 (by decide),fun _ _ _=>⟨⟨fun hk=>?_,fun hk=>Uv.skip rfl hk⟩,fun WA _ h31=>⟨ix 3 (by decide),fun _ _ _=>⟨⟨fun hk=>?_,fun hk=>h31.skip rfl hk⟩,fun WC _ h42=>⟨ix 3 (by decide),fun _ _ _=>⟨⟨fun hk=>?_,fun hk=>h42.skip rfl hk⟩,fun P9 _ WE=>⟨WE.1,fun _ _ _=>⟨fun _=>trivial,fun _=>trivial⟩⟩⟩⟩⟩⟩⟩⟩⟩⟩⟩⟩⟩⟩
  · refine ⟨⟨(Int.natCast_nonneg 0),fun _ _ _=>⟨(Int.natCast_nonneg 1),fun _ _ _=>⟨(Int.natCast_nonneg 2),fun _ _ _=>⟨(Int.natCast_nonneg 3),fun _ _ _=>⟨(Int.natCast_nonneg 4),fun _ _ _=>⟨(Int.natCast_nonneg 5),fun _ _ _=>⟨(Int.natCast_nonneg 6),fun _ _ _=>(Int.natCast_nonneg 7)⟩⟩⟩⟩⟩⟩⟩,fun KF qP _=>⟨(Int.natCast_nonneg 8),fun JK XL _=>⟨(Int.natCast_nonneg 9),fun Wn ML _=>⟨(Int.natCast_nonneg 10),fun Ze e13 _=>⟨(Int.natCast_nonneg 11),fun x14 e14 _=>⟨(Int.natCast_nonneg 12),fun yo XM _=>⟨(Int.natCast_nonneg 13),fun Mn WD _=>⟨(Int.natCast_nonneg 14),fun O0 e17 _=>⟨(Int.natCast_nonneg 15),fun P4 O1 _=>?_⟩⟩⟩⟩⟩⟩⟩⟩⟩
    subst qP XL ML e13 e14 XM WD e17 O1
    exact RJ.bill hg hI hk
  · refine ⟨⟨(Int.natCast_nonneg 0),fun _ _ _=>⟨(Int.natCast_nonneg 1),fun _ _ _=>⟨(Int.natCast_nonneg 2),fun _ _ _=>⟨(Int.natCast_nonneg 3),fun _ _ _=>⟨(Int.natCast_nonneg 4),fun _ _ _=>⟨(Int.natCast_nonneg 5),fun _ _ _=>⟨(Int.natCast_nonneg 6),fun _ _ _=>⟨(Int.natCast_nonneg 7),fun _ _ _=>(Int.natCast_nonneg 8)⟩⟩⟩⟩⟩⟩⟩⟩,fun p e _=>?_⟩
    subst e
    exact RJ.sign h2 hI hk
  · refine ⟨⟨(Int.natCast_nonneg 0),fun _ _ _=>⟨(Int.natCast_nonneg 1),fun _ _ _=>⟨(Int.natCast_nonneg 2),fun _ _ _=>⟨(Int.natCast_nonneg 3),fun _ _ _=>⟨(Int.natCast_nonneg 4),fun _ _ _=>⟨(Int.natCast_nonneg 5),fun _ _ _=>⟨(Int.natCast_nonneg 6),fun _ _ _=>⟨(Int.natCast_nonneg 7),fun _ _ _=>(Int.natCast_nonneg 8)⟩⟩⟩⟩⟩⟩⟩⟩,fun p e _=>?_⟩
    subst e
    exact RJ.act Uv hI hk
  · refine ⟨⟨(Int.natCast_nonneg 0),fun _ _ _=>(Int.natCast_nonneg 1)⟩,fun p e _=>?_⟩
    subst e
    exact RJ.alter h31 hI hk
  · refine ⟨⟨(Int.natCast_nonneg 0),fun _ _ _=>⟨(Int.natCast_nonneg 1),fun _ _ _=>(Int.natCast_nonneg 2)⟩⟩,fun p e _=>?_⟩
    subst e
    exact RJ.fact h42 hI hk

def O2 s:=kk tok mixed Tryz.func22 [sv s] (fun x=>.il [av x.1.cells,bv x.2]) true (lZ s) (mw s) (MM s) (fun (x:ae × Bool)=>(s.size≤1000000)→(Wx s x)) (G5 s)
def ly (a:ae) (b:ae):Sk (Bool) :=
 .r 1 (.dep ((jN a).c) fun x1=>.wh x1 true ((jN b).c)) fun p3 =>
 .fin ((((p3.1&&p3.2)&&(a.reporter == b.reporter))&&(a.no == b.no))&&(!(bZ (ae.cells a) (ae.cells b))))
def my a b:=(ly a b).val
theorem xy (a b:ae):my a b=de a b:=by
  have e:my a b=((((gq a&&gq b)&&(a.reporter == b.reporter))&&(a.no == b.no))&&(!(bZ (ae.cells a) (ae.cells b)))):=rfl
  rw [e,nC,nC]
  rfl

theorem CG (a:ae) (b:ae):(ly a b).bO (fun _=>True):=by
  unfold ly
  try simp only [jN]
  exact DB

def vJ a b:=kk tok mixed Tryz.func26 [av a.cells,av b.cells] (fun x=>bv x) true (ly a b) (my a b) (u0 (CG a b))
structure Key where
  kind:Int
  index:Int
  at_:Int
  fact:Int
  deriving Inhabited
def Key.cells (c:Key):List D:=[dI c.kind,dI c.index,dI c.at_,dI c.fact]
def Key.K:KE Key:=⟨Key.cells,4,fun _=>⟨rfl,rfl⟩⟩
structure aF where
  r:ai
  all:List (Key × Body)
  file:aA
  used:List Body
  deriving Inhabited
def iX (b:Body):Sk (Key) :=
 .br (b.kind == 4)
 (.fin ({ kind:=b.kind,index:=0,at_:=b.fact.at_,fact:=b.fact.kind }:Key))
 (.fin ({ kind:=b.kind,index:=b.index,at_:=0,fact:=0 }:Key))
def bC b:=(iX b).val
theorem CH (b:Body):(iX b).bO (fun _=>True):=by
  unfold iX
  exact DB

def mz b:=kk tok mixed Tryz.func126 [av b.cells] (fun x=>av x.cells) true (iX b) (bC b) (u0 (CH b))
def Body.Z:Body:=({ kind:=0,bill:=0,index:=0,aw:=({ cD:=0,cL:=0,cE:=0,sum:=0,bh:=0,bp:=({ kind:=0,n:=0,unit:=0 }:fc),day:=0,bn:=0,tE:=0,need:=0,iR:=0,flags:=0,parts:=0 }:dV),sign:=({ kind:=0,part:=0,fu:=0,for_:=0,cH:=0,sum:=0,day:=0,bn:=0,flags:=0 }:Sign),act:=({ kind:=0,fu:=0,cH:=0,part:=0,at_:=0,sum:=0,day:=0,bn:=0,form:=0 }:cd),alter:=({ at_:=0,sum:=0 }:bB),fact:=({ kind:=0,at_:=0,n:=0 }:Fact) }:Body)
/-! Xn JB are T2,as a set -/
theorem ae.lV {a b:ae} (h:a.cells=b.cells):a=b:=by
  obtain ⟨r,n,d,bo⟩:=a
  obtain ⟨r',n',d',bo'⟩:=b
  have e:([dI r,dI n,dI d]++bo.cells:List D)=[dI r',dI n',dI d']++bo'.cells:=h
  simp only [List.cons_append,List.nil_append,List.cons.injEq,dI,D.v.injEq,Value.int.injEq,true_and] at e
  obtain ⟨rfl,rfl,rfl,hb⟩:=e
  rw [Body.lV hb]
theorem Fx {a b:ae}:bZ (ae.K.C a) (ae.K.C b)=true↔a=b :=
  ⟨fun h=>ae.lV (kb rfl rfl h),fun h=>by subst h; exact kT rfl⟩
theorem wL {κ α:Type} (K:KE κ) (hK:∀ a b:κ,bZ (K.C a) (K.C b)=true↔a=b) (k:κ) (v:α):∀ (m:List (κ × α)),(m.map Prod.fst).Nodup→((eM K m k v).map Prod.fst).Nodup∧∀ q,q∈(eM K m k v).map Prod.fst↔q=k∨q∈m.map Prod.fst
  | [],_=>by simp [eM]
  | p :: r,h=>by
    simp only [List.map_cons,List.nodup_cons] at h
    obtain ⟨i1,i2⟩:=wL K hK k v r h.2
    simp only [eM]
    cases hk:bZ (K.C k) (K.C p.1) with
    | true =>
      have e:=(hK _ _).1 hk
      simp only [cond_true,List.map_cons,List.nodup_cons,List.mem_cons]
      exact ⟨h,fun q=>by rw [e]; constructor <;> intro hq <;> rcases hq with hq | hq <;> simp_all⟩
    | false =>
      have e:p.1≠k:=fun e=>by rw [(hK k p.1).2 e.symm] at hk; cases hk
      simp only [cond_false,List.map_cons,List.nodup_cons,List.mem_cons]
      refine ⟨⟨fun hq=>?_,i1⟩,fun q=>?_⟩
      · rcases (i2 _).1 hq with hq | hq
        · exact e hq
        · exact h.1 hq
      · rw [i2 q]
        constructor
        · rintro (h | h | h)
          · exact .inr (.inl h)
          · exact .inl h
          · exact .inr (.inr h)
        · rintro (h | h | h)
          · exact .inr (.inl h)
          · exact .inl h
          · exact .inr (.inr h)
theorem Ig {κ α:Type} (K:KE κ) (hK:∀ a b:κ,bZ (K.C a) (K.C b)=true↔a=b):∀ (m:List (κ × α)),(m.map Prod.fst).Nodup→∀ e,e∈m→cV K m e.1=some e.2
  | [],_,e,he=>by cases he
  | p :: r,h,e,he=>by
    simp only [List.map_cons,List.nodup_cons] at h
    simp only [cV]
    rcases List.mem_cons.1 he with rfl | he
    · rw [(hK _ _).2 rfl]; rfl
    · have:bZ (K.C e.1) (K.C p.1)=false:=by
        cases q:bZ (K.C e.1) (K.C p.1) with
        | false=>rfl
        | true=>exact absurd (List.mem_map.2 ⟨e,he,(hK _ _).1 q⟩) h.1
      rw [this]
      exact Ig K hK r h.2 e he
theorem ux {κ α:Type} (K:KE κ) (hK:∀ a b:κ,bZ (K.C a) (K.C b)=true↔a=b):∀ (m:List (κ × α)) (k:κ) (v:α),cV K m k=some v→(k,v)∈m
  | [],_,_,h=>by cases h
  | p :: r,k,v,h=>by
    simp only [cV] at h
    cases q:bZ (K.C k) (K.C p.1) with
    | true =>
      rw [q] at h
      simp only [cond_true,Option.some.injEq] at h
      have e:=(hK _ _).1 q
      obtain ⟨p1,p2⟩:=p
      simp only at e h
      subst e; subst h
      exact List.mem_cons_self
    | false =>
      rw [q] at h
      exact List.mem_cons_of_mem _ (ux K hK r k v h)
/-- Hz yc 0,1,2 as bits -/
def JY (p q r:Bool):Int:=(bif p then 1 else 0)+(bif q then 2 else 0)+(bif r then 4 else 0)
theorem Zn:∀ p q r:Bool,V5 .i64 (JY p q r) (Q4 .i64 1 0)=JY true q r:=by decide
theorem Zo:∀ p q r:Bool,V5 .i64 (JY p q r) (Q4 .i64 1 1)=JY p true r:=by decide
theorem Zp:∀ p q r:Bool,V5 .i64 (JY p q r) (Q4 .i64 1 2)=JY p q true:=by decide
theorem Qa:∀ p q r:Bool,jq (JY p q r)=((p&&q)||(p&&r)||(q&&r)):=by decide
def kL (l:List ah) (day:Int) (x:ae) (i:Int):Bool:=l.any fun a=>wA day a&&(bZ (ae.K.C x) (ae.K.C a.report)&&a.aX == i)
theorem Uw {l:List ah} {day:Int} {x:ae} {i:Int}:kL l day x i=true↔∃ a,a∈l∧wA day a=true∧a.report=x∧a.aX=i:=by
  unfold kL
  rw [List.any_eq_true]
  constructor
  · rintro ⟨a,h1,h2⟩
    simp only [Bool.and_eq_true,beq_iff_eq] at h2
    exact ⟨a,h1,h2.1,(Fx.1 h2.2.1).symm,h2.2.2⟩
  · rintro ⟨a,h1,h2,h3,h4⟩
    refine ⟨a,h1,?_⟩
    simp only [Bool.and_eq_true,beq_iff_eq]
    exact ⟨h2,Fx.2 h3.symm,h4⟩
theorem JZ {day:Int} {a:ah} (h:wA day a=true):a.aX=0∨a.aX=1∨a.aX=2:=by
  unfold wA at h
  simp only [Bool.and_eq_true,decide_eq_true_eq] at h
  omega
def RB (day:Int) (m:List (ae × Int)) (l:List ah):Prop:=(m.map Prod.fst).Nodup∧∀ x,cV ae.K m x=bif (kL l day x 0||kL l day x 1||kL l day x 2) then some (JY (kL l day x 0) (kL l day x 1) (kL l day x 2)) else none
theorem Bf (l:List ah) (day:Int) (x:ae) (i:Int) (a:ah):kL (l++[a]) day x i=(kL l day x i||(wA day a&&(bZ (ae.K.C x) (ae.K.C a.report)&&a.aX == i))):=by
  unfold kL
  simp [List.any_append]
theorem RB.step {day:Int} {m:List (ae × Int)} {l:List ah} (h:RB day m l) (a:ah):RB day (lI day m a) (l++[a]):=by
  unfold lI
  cases hc:wA day a with
  | false =>
    refine ⟨h.1,fun x=>?_⟩
    simp only [Bf,hc,Bool.false_and,Bool.or_false,cond_false]
    exact h.2 x
  | true =>
    simp only [cond_true]
    refine ⟨(wL ae.K (fun _ _=>Fx) _ _ m h.1).1,fun x=>?_⟩
    have hd:Decidable (x=a.report):=Classical.propDecidable _
    rw [ue ae.K (fun _ _=>Fx) _ _ _ hd]
    by_cases hx:x=a.report
    · subst hx
      rw [if_pos rfl]
      have hg:gw ae.K m a.report (0:Int)=JY (kL l day a.report 0) (kL l day a.report 1) (kL l day a.report 2):=by
        unfold gw
        rw [h.2]
        generalize kL l day a.report 0=p
        generalize kL l day a.report 1=q
        generalize kL l day a.report 2=r
        revert p q r
        decide
      rw [hg]
      simp only [Bf,hc,Fx.2 rfl,Bool.true_and]
      rcases JZ hc with e | e | e
      · rw [e,Zn]; simp
      · rw [e,Zo]; simp
      · rw [e,Zp]; simp
    · have:bZ (ae.K.C x) (ae.K.C a.report)=false:=by
        cases q:bZ (ae.K.C x) (ae.K.C a.report) with
        | false=>rfl
        | true=>exact absurd (Fx.1 q) hx
      rw [if_neg hx]
      simp only [Bf,this,Bool.false_and,Bool.and_false,Bool.or_false]
      exact h.2 x
theorem Ih (l:List ah) (day:Int):RB day (oH l day) l:=by
  have key:∀ (l:List ah) (l0:List ah) (m:List (ae × Int)),RB day m l0→RB day (l.foldl (lI day) m) (l0++l):=by
    intro l
    induction l with
    | nil=>intro l0 m h; simpa using h
    | cons a l ih =>
      intro l0 m h
      have:=ih (l0++[a]) _ (h.step a)
      simpa using this
  have:=key l [] [] ⟨by simp,fun x=>by simp [cV,kL]⟩
  simpa [oH] using this
theorem MN {l:List ah} {day:Int} {x:ae}:x∈aY l day↔∃ a b,a∈l∧b∈l∧wA day a=true∧wA day b=true∧a.report=x∧b.report=x∧a.aX≠b.aX:=by
  have hI:=Ih l day
  have h1:x∈aY l day↔((kL l day x 0&&kL l day x 1)||(kL l day x 0&&kL l day x 2)||(kL l day x 1&&kL l day x 2))=true:=by
    rw [← Qa]
    unfold aY vE
    constructor
    · intro h
      obtain ⟨e,he,rfl⟩:=List.mem_map.1 h
      obtain ⟨h1,h2⟩:=List.mem_filter.1 he
      have h3:=Ig ae.K (fun _ _=>Fx) _ hI.1 e h1
      rw [hI.2] at h3
      cases hb:(kL l day e.1 0||kL l day e.1 1||kL l day e.1 2) with
      | false=>rw [hb] at h3; cases h3
      | true =>
        rw [hb] at h3
        simp only [cond_true,Option.some.injEq] at h3
        rw [h3]
        exact h2
    · intro h
      have h2:=hI.2 x
      have hb:(kL l day x 0||kL l day x 1||kL l day x 2)=true:=by
        rw [Qa] at h
        revert h
        generalize kL l day x 0=p
        generalize kL l day x 1=q
        generalize kL l day x 2=r
        revert p q r
        decide
      rw [hb] at h2
      exact List.mem_map.2 ⟨_,List.mem_filter.2 ⟨ux ae.K (fun _ _=>Fx) _ _ _ h2,h⟩,rfl⟩
  rw [h1]
  simp only [Bool.or_eq_true,Bool.and_eq_true,Uw]
  constructor
  · rintro ((⟨⟨a,a1,a2,a3,a4⟩,b,b1,b2,b3,b4⟩ | ⟨⟨a,a1,a2,a3,a4⟩,b,b1,b2,b3,b4⟩) | ⟨⟨a,a1,a2,a3,a4⟩,b,b1,b2,b3,b4⟩) <;> exact ⟨a,b,a1,b1,a2,b2,a3,b3,by omega⟩
  · rintro ⟨a,b,a1,b1,a2,b2,a3,b3,IZ⟩
    rcases JZ a2 with e | e | e <;> rcases JZ b2 with f | f | f
    · omega
    · exact .inl (.inl ⟨⟨a,a1,a2,a3,e⟩,b,b1,b2,b3,f⟩)
    · exact .inl (.inr ⟨⟨a,a1,a2,a3,e⟩,b,b1,b2,b3,f⟩)
    · exact .inl (.inl ⟨⟨b,b1,b2,b3,f⟩,a,a1,a2,a3,e⟩)
    · omega
    · exact .inr ⟨⟨a,a1,a2,a3,e⟩,b,b1,b2,b3,f⟩
    · exact .inl (.inr ⟨⟨b,b1,b2,b3,f⟩,a,a1,a2,a3,e⟩)
    · exact .inr ⟨⟨b,b1,b2,b3,f⟩,a,a1,a2,a3,e⟩
    · omega
theorem kY (l:List ah) (day:Int):(aY l day).Nodup:=by
  unfold aY vE
  exact ((List.filter_sublist (l:=oH l day)).map Prod.fst).nodup (Ih l day).1
theorem RC {L L':List ae} (h:L.Perm L') (r:Int):mU L r=mU L' r:=by
  unfold mU
  have e:(∃ c,2≤yJ L r c)↔∃ c,2≤yJ L' r c:=by
    constructor
    · rintro ⟨c,hc⟩; exact ⟨c,by rw [← qt h]; exact hc⟩
    · rintro ⟨c,hc⟩; exact ⟨c,by rw [qt h]; exact hc⟩
  exact @decide_eq_decide _ _ (_) (_) |>.2 e
/-- each body aeB under IB it is about -/
def pk (m:List (Key × Body)):Prop:=∀ e,e∈m→bC e.2=e.1
theorem xz {a b:Key}:bZ (Key.K.C a) (Key.K.C b)=true↔a=b:=by
  constructor
  · intro h
    have h1:=kb (a:=Key.cells a) (b:=Key.cells b) rfl rfl h
    cases a; cases b
    simp [Key.cells,dI] at h1
    simp [h1]
  · rintro rfl
    exact kT rfl
theorem pk.uU {m:List (Key × Body)} (h:pk m) (b:Body):pk (eM Key.K m (bC b) b):=by
  induction m with
  | nil=>intro e he; simp [eM] at he; subst he; rfl
  | cons p r ih =>
    have hr:pk r:=fun e he=>h e (List.mem_cons_of_mem _ he)
    intro e he
    simp only [eM] at he
    cases hk:bZ (Key.K.C (bC b)) (Key.K.C p.1) with
    | true =>
      rw [hk] at he
      simp only [cond_true,List.mem_cons] at he
      rcases he with rfl | he
      · exact xz.1 hk
      · exact hr e he
    | false =>
      rw [hk] at he
      simp only [cond_false,List.mem_cons] at he
      rcases he with rfl | he
      · exact h _ List.mem_cons_self
      · exact ih hr e he
theorem Fy {κ α:Type} (K:KE κ) (k:κ):∀ (m:List (κ × α)),(oC K m k).Sublist m
  | []=>.slnil
  | p :: r=>by
    simp only [oC]
    cases bZ (K.C k) (K.C p.1) with
    | true=>exact (List.Sublist.refl r).cons p
    | false=>exact (Fy K k r).cons_cons p
theorem pk.del {m:List (Key × Body)} (h:pk m) (k:Key):pk (oC Key.K m k):=fun e he=>h e ((Fy _ _ _).subset he)
theorem Ii {κ α:Type} (K:KE κ) (hK:∀ a b:κ,bZ (K.C a) (K.C b)=true↔a=b) (a b:κ):∀ (m:List (κ × α)),oC K (oC K m a) b=oC K (oC K m b) a
  | []=>rfl
  | p :: r=>by
    have ih:=Ii K hK a b r
    cases ha:bZ (K.C a) (K.C p.1) with
    | true =>
      cases hb:bZ (K.C b) (K.C p.1) with
      | true=>rw [(hK _ _).1 ha,(hK _ _).1 hb]
      | false=>simp only [oC,ha,hb,cond_true,cond_false]
    | false =>
      cases hb:bZ (K.C b) (K.C p.1) with
      | true=>simp only [oC,ha,hb,cond_true,cond_false]
      | false=>simp only [oC,ha,hb,cond_false,ih]

def eP (l:List ah) (bill:Int) (day:Int):Sk ((List (Key × Body))) :=
 .r 1 (.o [.xQ (mkK Key.K (vx Body.cells))]) fun _ =>
 .r 2 (.o [.xQ (mkK Key.K dB)]) fun _ =>
 .r 3 ((ed l day).c) fun x1 =>
 .bind true (fun b2=>pk b2.1)
 (.loop (default:Sum ((List (Key × Body))) ((List (Key × Body)) × (List (Key × Bool)))) (fun i3=>i3.1≤x1.length∧pk i3.2.1) (fun i3=>x1.length - i3.1) ((0,([]:List (Key × Body)),([]:List (Key × Bool))):Nat × (List (Key × Body)) × (List (Key × Bool)))
 (fun (i3:Nat × (List (Key × Body)) × (List (Key × Bool)))=>⟨[(21,iv ((i3.1:Nat):Int))],[(15,kpM Key.K (vx Body.cells) i3.2.1),(16,kpM Key.K dB i3.2.2)]⟩) fun i3=>let eX:=((i3.1:Nat):Int); let bF:=(xu Key.K (vx Body.cells) i3.2.1); let aC:=((x1.getD i3.1 default).body);
 .lt 19 0 i3.1 x1.length
 (.r 5 (.p (cM eX x1.length)) fun _ =>
 .br ((aC.bill) != bill)
 (.nx 12 21 i3.1 (i3.1+1,i3.2.1,i3.2.2))
 (.r 7 ((mz aC).c) fun x4=>let dm:=(Wa Key.K (vx Body.cells) i3.2.1 x4 aC);
 .r 8 (.ak (.t bF) (.o [.cast 36 (XC Key.K (vx Body.cells) i3.2.1 x4 Body.Z)])) fun _ =>
 .br ((sG Key.K i3.2.1 x4)&&(!(bZ (Body.cells (gw Key.K i3.2.1 x4 Body.Z)) (Body.cells aC))))
 (.r 10 (.ak (.t (xu Key.K dB i3.2.2)) (.o [.xQ (Wa Key.K dB i3.2.2 x4 true)])) fun _ =>
 .r 11 (.ak (.t bF) (.o [.xQ dm])) fun _ =>
 .r 12 .z fun _ =>
 .wi 21 (bI (eX+1)) ((i3.1+1:Nat):Int) <|
 .fin (.inr (i3.1+1,eM Key.K i3.2.1 x4 aC,eM Key.K i3.2.2 x4 true)))
 (.r 11 (.ak (.t bF) (.o [.xQ dm])) fun _ =>
 .r 12 .z fun _ =>
 .wi 21 (bI (eX+1)) ((i3.1+1:Nat):Int) <|
 .fin (.inr (i3.1+1,eM Key.K i3.2.1 x4 aC,i3.2.2)))))
 (.fin (.inl (.inr (i3.2.1,i3.2.2)))))
 (fun (b2:(List (Key × Body)) × (List (Key × Bool)))=>⟨[],[(15,kpM Key.K (vx Body.cells) b2.1),(16,kpM Key.K dB b2.2)]⟩) fun b2 =>
 .bind true (fun b5=>pk b5)
 (.mr b2.2.length (fun vs_ g6=>pk g6) (b2.1:(List (Key × Body)))
 (fun g6 s8=>⟨[],[(15,Y3 Key.K (vx Body.cells) g6),(54,.it 16 b2.2.length s8)]⟩)
 (fun g9=>⟨[],[(15,Y3 Key.K (vx Body.cells) g9)]⟩)
 (fun g6 i7 =>
 .Gr <|
 .r 15 (.p (i7 < b2.2.length)) fun _ =>
 .r 16 (.ak (.t (xu Key.K (vx Body.cells) g6)) (.o [.xQ (adB Key.K (vx Body.cells) g6 ((b2.2.getD i7 default).1))])) fun _ =>
 .fin (oC Key.K g6 ((b2.2.getD i7 default).1))) fun g9 =>
 .Gs <|
 .fin (.inr g9))
 (fun (b5:(List (Key × Body)))=>⟨[(54,.any)],[(15,Y3 Key.K (vx Body.cells) b5)]⟩) fun b5 =>
 .fin b5
def aR l bill day:=(eP l bill day).val
theorem zL (l:List ah) (bill:Int) (day:Int):(eP l bill day).dj (fun (x:(List (Key × Body)))=>pk x):=by
  refine Sk.bM _ ?_
  unfold eP
  simp only [Sk.eO,Sk.db,reduceCtorEq,ON,kk,kp,ed,mz,maxLen]
  intro _ _ K hK _
  have st:∀ {i n:Nat},decide ((i:Int) < (n:Int))=true→i < n:=fun h=>by have h:=of_decide_eq_true h; omega
  refine ⟨⟨⟨Nat.zero_le _,fun e he=>by cases he⟩,fun i hi=>⟨fun hc _=>?_,fun _=>hi.2⟩⟩,fun b hb=>⟨⟨hb,fun s g i hg _ _ _ _=>hg.del _,fun g _ hg=>hg⟩,fun _ _ h=>h⟩⟩
  have hc:=st hc
  have hm:K.length - (i.1+1) < K.length - i.1:=by omega
  refine ⟨fun _ _=>⟨⟨by omega,hi.2⟩,hm⟩,fun _ k hk _=>?_⟩
  subst hk
  exact ⟨fun _ _ _ _=>⟨⟨by omega,hi.2.uU _⟩,hm⟩,fun _ _ _=>⟨⟨by omega,hi.2.uU _⟩,hm⟩⟩

theorem yp (l:List ah) (bill:Int) (day:Int):(fun (x:(List (Key × Body)))=>pk x) (aR l bill day):=have h:=Sk.cN _ (zL l bill day); h
theorem Bg (l:List ah) (bill:Int) (day:Int) (hi:∀ a,a∈l→a.report.dT):(eP l bill day).bO (fun _=>True):=by
  refine Sk.bP _ ?_
  unfold eP
  simp only [Sk.oV,Sk.db,reduceCtorEq,ON,kk,kp,Sk.dj,ed,mz,maxLen]
  intro _ _
  refine ⟨hi,fun K hK hKp=>?_⟩
  have hl:=(hKp hi).1
  have st:∀ {i n:Nat},decide ((i:Int) < (n:Int))=true→i < n:=fun h=>by have h:=of_decide_eq_true h; omega
  refine ⟨⟨⟨Nat.zero_le _,fun e he=>by cases he⟩,fun i hi _=>⟨fun hc=>?_,fun _=>hi.2⟩⟩,fun b hb=>⟨hb,fun s g i hg hi _=>⟨fun _ _=>hg.del _,hi⟩,fun s g i j hg _ _ _ _ _=>Ii Key.K (fun _ _=>xz) _ _ g,fun g _ hg=>hg⟩⟩
  have hc:=st hc
  have hm:K.length - (i.1+1) < K.length - i.1:=by omega
  have hw:bI ((i.1:Int)+1)=((i.1+1:Nat):Int):=by rw [aD (by omega) (by omega)]; omega
  refine ⟨⟨by omega,by omega⟩,fun _=>⟨fun _ _=>⟨hw,⟨by omega,hi.2⟩,hm⟩,fun _ k hk _=>?_⟩⟩
  subst hk
  exact ⟨fun _ _ _ _=>⟨hw,⟨by omega,hi.2.uU _⟩,hm⟩,fun _ _ _=>⟨hw,⟨by omega,hi.2.uU _⟩,hm⟩⟩

theorem zM (l:List ah) (bill:Int) (day:Int) (hi:∀ a,a∈l→a.report.dT):kE Tryz.prog 87 [lv ah.cells l,iv bill,iv day] [] ((fun (_:(List (Key × Body)))=>(.kD 777790:AV)) (aR l bill day)) ((fun (x:(List (Key × Body)))=>[(777790,Y3 Key.K (vx Body.cells) x)]) (aR l bill day)) :=
  kE.sk tok mixed (fun x=>.kD 777790) (fun x=>[(777790,Y3 Key.K (vx Body.cells) x)]) Tryz.func87 rfl (by kernel_rfl) 3000 (eP l bill day) (by kernel_rfl) (Bg l bill day hi)
def sW (l:List ah) (bill:Int) (day:Int):gR ((List (Key × Body))):=⟨Tryz.prog,87,[lv ah.cells l,iv bill,iv day],fun x=>.kD 777790,fun x=>[(777790,Y3 Key.K (vx Body.cells) x)],aR l bill day,(∀ a,a∈l→a.report.dT),fun h=>zM l bill day h,fun (x:(List (Key × Body)))=>pk x,yp l bill day⟩
def aF.bx (κ ρ:Nat) (m:aF):List (Nat × aZ):=[(κ,.box (m.r.cells.map .d++[.kD (ρ+2)]++m.file.cells.map .d++[ow (ρ+4) m.used])),((ρ+2),Y3 Key.K (vx Body.cells) m.all),((ρ+4),cm 35 41 Body.cells m.used)]
def gr (s:List Sign):Sk ((List Sign)) :=
 .Jj 0 s.length
 (.Gr <|
 .fin [])
 (.Gs <|
 .r 3 (.ak (.o [.dU (dw Sign.E ([]:List Sign))]) (.ak (.o [.dU (fo Sign.E ([]:List Sign) s)]) (.ak (.t (Sign.E.src s)) (.p (jH (([]:List Sign).length) s.length 72))))) fun _ =>
 .fin (([]:List Sign)++s))
def mA s:=(gr s).val
theorem Bh (s:List Sign):(gr s).dj (fun (x:(List Sign))=>x.length=s.length∧x=s):=by
  unfold gr
  simp [Sk.dj,dw,fo]
theorem ry (s:List Sign):(fun (x:(List Sign))=>x.length=s.length∧x=s) (mA s):=have h:=Sk.cN _ (Bh s); h
theorem CI (s:List Sign) (hs:s.length≤1000000000):(gr s).bO (fun _=>True):=by
  unfold gr
  exact sH

theorem Bi (s:List Sign) (hs:s.length≤1000000000):kE Tryz.prog 169 [lv Sign.cells s] [] (ow 777777 (mA s)) [(777777,cm 27 9 Sign.cells (mA s))] :=
  kE.sk tok mixed (fun x=>ow 777777 x) (fun x=>[(777777,cm 27 9 Sign.cells x)]) Tryz.func169 rfl (by kernel_rfl) 3000 (gr s) (by kernel_rfl) (CI s hs)
def uN (κ:Nat) (s:List Sign):gR ((List Sign)):=⟨Tryz.prog,169,[lv Sign.cells s],fun x=>ow κ x,fun x=>[(κ,cm 27 9 Sign.cells x)],mA s,(s.length≤1000000000),fun h=>kE.PX κ (Bi s h),fun (x:(List Sign))=>x.length=s.length∧x=s,ry s⟩
def fh (s:List bB):Sk ((List bB)) :=
 .Jj 0 s.length
 (.Gr <|
 .fin [])
 (.Gs <|
 .r 3 (.ak (.o [.dU (dw bB.E ([]:List bB))]) (.ak (.o [.dU (fo bB.E ([]:List bB) s)]) (.ak (.t (bB.E.src s)) (.p (jH (([]:List bB).length) s.length 16))))) fun _ =>
 .fin (([]:List bB)++s))
def jQ s:=(fh s).val
theorem yq (s:List bB):(fh s).dj (fun (x:(List bB))=>x.length=s.length∧x=s):=by
  unfold fh
  simp [Sk.dj,dw,fo]
theorem pn (s:List bB):(fun (x:(List bB))=>x.length=s.length∧x=s) (jQ s):=have h:=Sk.cN _ (yq s); h
theorem zN (s:List bB) (hs:s.length≤1000000000):(fh s).bO (fun _=>True):=by
  unfold fh
  exact sH

theorem yr (s:List bB) (hs:s.length≤1000000000):kE Tryz.prog 170 [lv bB.cells s] [] (ow 777777 (jQ s)) [(777777,cm 31 2 bB.cells (jQ s))] :=
  kE.sk tok mixed (fun x=>ow 777777 x) (fun x=>[(777777,cm 31 2 bB.cells x)]) Tryz.func170 rfl (by kernel_rfl) 3000 (fh s) (by kernel_rfl) (zN s hs)
def rz (κ:Nat) (s:List bB):gR ((List bB)):=⟨Tryz.prog,170,[lv bB.cells s],fun x=>ow κ x,fun x=>[(κ,cm 31 2 bB.cells x)],jQ s,(s.length≤1000000000),fun h=>kE.PX κ (yr s h),fun (x:(List bB))=>x.length=s.length∧x=s,pn s⟩
def fi (s:List cd):Sk ((List cd)) :=
 .Jj 0 s.length
 (.Gr <|
 .fin [])
 (.Gs <|
 .r 3 (.ak (.o [.dU (dw cd.E ([]:List cd))]) (.ak (.o [.dU (fo cd.E ([]:List cd) s)]) (.ak (.t (cd.E.src s)) (.p (jH (([]:List cd).length) s.length 72))))) fun _ =>
 .fin (([]:List cd)++s))
def jR s:=(fi s).val
theorem yt (s:List cd):(fi s).dj (fun (x:(List cd))=>x.length=s.length∧x=s):=by
  unfold fi
  simp [Sk.dj,dw,fo]
theorem pq (s:List cd):(fun (x:(List cd))=>x.length=s.length∧x=s) (jR s):=have h:=Sk.cN _ (yt s); h
theorem zO (s:List cd) (hs:s.length≤1000000000):(fi s).bO (fun _=>True):=by
  unfold fi
  exact sH

theorem yu (s:List cd) (hs:s.length≤1000000000):kE Tryz.prog 171 [lv cd.cells s] [] (ow 777777 (jR s)) [(777777,cm 29 9 cd.cells (jR s))] :=
  kE.sk tok mixed (fun x=>ow 777777 x) (fun x=>[(777777,cm 29 9 cd.cells x)]) Tryz.func171 rfl (by kernel_rfl) 3000 (fi s) (by kernel_rfl) (zO s hs)
def rA (κ:Nat) (s:List cd):gR ((List cd)):=⟨Tryz.prog,171,[lv cd.cells s],fun x=>ow κ x,fun x=>[(κ,cm 29 9 cd.cells x)],jR s,(s.length≤1000000000),fun h=>kE.PX κ (yu s h),fun (x:(List cd))=>x.length=s.length∧x=s,pq s⟩
def fj (s:List Fact):Sk ((List Fact)) :=
 .Jj 0 s.length
 (.Gr <|
 .fin [])
 (.Gs <|
 .r 3 (.ak (.o [.dU (dw Fact.E ([]:List Fact))]) (.ak (.o [.dU (fo Fact.E ([]:List Fact) s)]) (.ak (.t (Fact.E.src s)) (.p (jH (([]:List Fact).length) s.length 24))))) fun _ =>
 .fin (([]:List Fact)++s))
def jS s:=(fj s).val
theorem yv (s:List Fact):(fj s).dj (fun (x:(List Fact))=>x.length=s.length∧x=s):=by
  unfold fj
  simp [Sk.dj,dw,fo]
theorem pv (s:List Fact):(fun (x:(List Fact))=>x.length=s.length∧x=s) (jS s):=have h:=Sk.cN _ (yv s); h
theorem zP (s:List Fact) (hs:s.length≤1000000000):(fj s).bO (fun _=>True):=by
  unfold fj
  exact sH

theorem yw (s:List Fact) (hs:s.length≤1000000000):kE Tryz.prog 172 [lv Fact.cells s] [] (ow 777777 (jS s)) [(777777,cm 33 3 Fact.cells (jS s))] :=
  kE.sk tok mixed (fun x=>ow 777777 x) (fun x=>[(777777,cm 33 3 Fact.cells x)]) Tryz.func172 rfl (by kernel_rfl) 3000 (fj s) (by kernel_rfl) (zP s hs)
def rB (κ:Nat) (s:List Fact):gR ((List Fact)):=⟨Tryz.prog,172,[lv Fact.cells s],fun x=>ow κ x,fun x=>[(κ,cm 33 3 Fact.cells x)],jS s,(s.length≤1000000000),fun h=>kE.PX κ (yw s h),fun (x:(List Fact))=>x.length=s.length∧x=s,pv s⟩
def mB (f:aA) (b:Body):Sk (aA) :=
 .br (b.kind == 1)
 (.r 3 (.sE ((uN 11 f.af).c) fun x1=>.ak (.o [.dU (dw Sign.E [b.sign])]) (.ak (.o [.dU (fo Sign.E x1 [b.sign])]) (.ak (.t (Sign.E.jz [b.sign])) (.p (jH x1.length [b.sign].length 72))))) fun x1 =>
 .fin ({ f with af:=x1++[b.sign] }))
 (.br (b.kind == 3)
 (.r 5 (.sE ((rz 21 f.aE).c) fun x2=>.ak (.o [.dU (dw bB.E [b.alter])]) (.ak (.o [.dU (fo bB.E x2 [b.alter])]) (.ak (.t (bB.E.jz [b.alter])) (.p (jH x2.length [b.alter].length 16))))) fun x2 =>
 .fin ({ f with aE:=x2++[b.alter] }))
 (.br (b.kind == 2)
 (.r 7 (.sE ((rA 31 f.bq).c) fun x3=>.ak (.o [.dU (dw cd.E [b.act])]) (.ak (.o [.dU (fo cd.E x3 [b.act])]) (.ak (.t (cd.E.jz [b.act])) (.p (jH x3.length [b.act].length 72))))) fun x3 =>
 .fin ({ f with bq:=x3++[b.act] }))
 (.br (b.kind == 4)
 (.r 9 (.sE ((rB 41 f.facts).c) fun x4=>.ak (.o [.dU (dw Fact.E [b.fact])]) (.ak (.o [.dU (fo Fact.E x4 [b.fact])]) (.ak (.t (Fact.E.jz [b.fact])) (.p (jH x4.length [b.fact].length 24))))) fun x4 =>
 .fin ({ f with facts:=x4++[b.fact] }))
 (.fin f))))
def vK f b:=(mB f b).val
theorem Fz (f:aA) (b:Body) (hf:f.Small):(mB f b).bO (fun _=>True):=by
  simp only [aA.Small,ai.Small] at hf
  unfold mB
  try simp only [rz,rA,rB,uN,aA.Small,ai.Small]
  exact sH

def xA f b:=kk tok mixed Tryz.func127 [av f.cells,av b.cells] (fun x=>av x.cells) false (mB f b) (vK f b) (Fz f b)
def jT (r:ai):Sk ((List ByteArray) × (List ByteArray) × (List ByteArray)):=let eX:=((List ByteArray));
 .bind true (fun b1=>b1.length≤0+r.aL.length)
 (.loop (default:Sum ((List ByteArray) × (List ByteArray) × (List ByteArray)) eX) (fun i2=>i2.2≤r.aL.length∧i2.1.length≤0+i2.2) (fun i2=>r.aL.length - i2.2) (([],0):(List ByteArray) × Nat)
 (fun (i2:(List ByteArray) × Nat)=>⟨[(2,ow 100002 i2.1),(14,iv ((i2.2:Nat):Int))],[(100002,cm 9 1 fZ i2.1)]⟩) fun i2=>let aC:=(r.aL.getD i2.2 default);
 .lt 12 0 i2.2 r.aL.length
 (.r 3 (.p (cM ((i2.2:Nat):Int) r.aL.length)) fun _ =>
 .r 4 (.ak (.o [.dU (dw sD [aC.name])]) (.ak (.o [.dU (fo sD i2.1 [aC.name])]) (.ak (.t (sD.jz [aC.name])) (.p (jH i2.1.length [aC.name].length 16))))) fun _ =>
 .nx 5 14 i2.2 (i2.1++[aC.name],i2.2+1))
 (.fin (.inl (.inr i2.1))))
 (fun (b1:(List ByteArray))=>⟨[(2,ow 100001 b1)],[(100001,cm 9 1 fZ b1)]⟩) fun b1 =>
 .bind true (fun b3=>b3.length≤0+r.aQ.length)
 (.loop (default:Sum ((List ByteArray) × (List ByteArray) × (List ByteArray)) eX) (fun i4=>i4.2≤r.aQ.length∧i4.1.length≤0+i4.2) (fun i4=>r.aQ.length - i4.2) (([],0):(List ByteArray) × Nat)
 (fun (i4:(List ByteArray) × Nat)=>⟨[(3,ow 100005 i4.1),(27,iv ((i4.2:Nat):Int))],[(100005,cm 9 1 fZ i4.1)]⟩) fun i4=>let dm:=(r.aQ.getD i4.2 default);
 .lt 25 0 i4.2 r.aQ.length
 (.r 8 (.p (cM ((i4.2:Nat):Int) r.aQ.length)) fun _ =>
 .r 9 (.ak (.o [.dU (dw sD [dm.name])]) (.ak (.o [.dU (fo sD i4.1 [dm.name])]) (.ak (.t (sD.jz [dm.name])) (.p (jH i4.1.length [dm.name].length 16))))) fun _ =>
 .nx 10 27 i4.2 (i4.1++[dm.name],i4.2+1))
 (.fin (.inl (.inr i4.1))))
 (fun (b3:(List ByteArray))=>⟨[(3,ow 100004 b3)],[(100004,cm 9 1 fZ b3)]⟩) fun b3 =>
 .bind true (fun b5=>b5.length≤0+r.aG.length)
 (.loop (default:Sum ((List ByteArray) × (List ByteArray) × (List ByteArray)) eX) (fun i6=>i6.2≤r.aG.length∧i6.1.length≤0+i6.2) (fun i6=>r.aG.length - i6.2) (([],0):(List ByteArray) × Nat)
 (fun (i6:(List ByteArray) × Nat)=>⟨[(4,ow 100008 i6.1),(40,iv ((i6.2:Nat):Int))],[(100008,cm 9 1 fZ i6.1)]⟩) fun i6=>let bF:=(r.aG.getD i6.2 default);
 .lt 38 0 i6.2 r.aG.length
 (.r 13 (.p (cM ((i6.2:Nat):Int) r.aG.length)) fun _ =>
 .r 14 (.ak (.o [.dU (dw sD [bF.name])]) (.ak (.o [.dU (fo sD i6.1 [bF.name])]) (.ak (.t (sD.jz [bF.name])) (.p (jH i6.1.length [bF.name].length 16))))) fun _ =>
 .nx 15 40 i6.2 (i6.1++[bF.name],i6.2+1))
 (.fin (.inl (.inr i6.1))))
 (fun (b5:(List ByteArray))=>⟨[(4,ow 100007 b5)],[(100007,cm 9 1 fZ b5)]⟩) fun b5 =>
 .fin (b1,b3,b5)
def eB r:=(jT r).val
theorem CJ (r:ai):(jT r).dj (fun (x:(List ByteArray) × (List ByteArray) × (List ByteArray))=>x.1.length≤r.aL.length∧x.2.1.length≤r.aQ.length∧x.2.2.length≤r.aG.length):=by
  unfold jT
  try simp only [aA.Small,ai.Small]
  exact U7

theorem FA (r:ai) (hr:r.Small):(jT r).bO (fun _=>True):=by
  simp only [aA.Small,ai.Small] at hr
  unfold jT
  try simp only [aA.Small,ai.Small]
  exact sH

def sb r:=kp tok mixed Tryz.func112 [av r.cells] (fun x=>.il [lv fZ x.1,lv fZ x.2.1,lv fZ x.2.2]) false (eB r) (FA r) (CJ r)
def lz (s:ByteArray):Sk (Bool) :=
 .br ((s.toList == (⟨#[]⟩:ByteArray).toList)||(decide (((s.size:Nat):Int) > 20)))
 (.fin false)
 (.r 3 (.ak (.o [.dU (YY s)]) (.p (s.size≤maxLen))) fun _ =>
 .bt
 (.loop (default:Sum (Bool) (Unit)) (fun i2=>i2≤(jj s).length) (fun i2=>(jj s).length - i2) (0:Nat)
 (fun (i2:Nat)=>⟨[(16,iv ((i2:Nat):Int))],[]⟩) fun i2=>let aC:=((jj s).getD i2 default);
 .lt 14 0 i2 ((jj s).length)
 (.r 5 (.p (cM ((i2:Nat):Int) ((jj s).length))) fun _ =>
 .br ((!(((decide (aC≥97))&&(decide (aC≤122)))||((decide (aC≥65))&&(decide (aC≤90)))))&&((((i2:Nat):Int) == 0)||((aC != 95)&&((decide (aC < 48))||(decide (aC > 57))))))
 (.fin (.inl (.inl false)))
 (.nx 9 16 i2 (i2+1)))
 (.fin (.inl (.inr ()))))
 (fun (_:Unit)=>⟨[],[]⟩) fun _ =>
 .fin true)
def pJ s:=(lz s).val
theorem CK (s:ByteArray):(lz s).bO (fun _=>True):=by
  unfold lz
  exact sH

def vL s:=kk tok mixed Tryz.func196 [sv s] (fun x=>bv x) true (lz s) (pJ s) (u0 (CK s))
def gW (s:List ByteArray) (v:ByteArray):Sk (Int) :=
 .bind true (fun b1=>∀ q,q < s.length→((s.getD q default).toList == v.toList)=false)
 (.loop (default:Sum (Int) (Unit)) (fun i2=>∀ q,q < i2→((s.getD q default).toList == v.toList)=false) (fun i2=>s.length - i2) (0:Nat)
 (fun (i2:Nat)=>⟨[(8,iv ((i2:Nat):Int))],[]⟩) fun i2 =>
 .lt 0 0 i2 s.length
 (.r 4 (.p (cM ((i2:Nat):Int) s.length)) fun _ =>
 .br (v.toList == (s.getD i2 default).toList)
 (.fin (.inl (.inl ((i2:Nat):Int))))
 (.nx 6 8 i2 (i2+1)))
 (.fin (.inl (.inr ()))))
 (fun (_:Unit)=>⟨[],[]⟩) fun _ =>
 .fin (-1)
def sd s v:=(gW s v).val
theorem rC (s:List ByteArray) (v:ByteArray):(gW s v).dj (fun (x:Int)=>(x = -1∧∀ q,q < s.length→((s.getD q default).toList == v.toList)=false)∨(0≤x∧x < s.length∧((s.getD x.toNat default).toList == v.toList)=true∧∀ q,(q:Nat) < x.toNat→((s.getD q default).toList == v.toList)=false)):=by
  unfold gW
  exact U7

theorem yx (s:List ByteArray) (v:ByteArray):(fun (x:Int)=>(x = -1∧∀ q,q < s.length→((s.getD q default).toList == v.toList)=false)∨(0≤x∧x < s.length∧((s.getD x.toNat default).toList == v.toList)=true∧∀ q,(q:Nat) < x.toNat→((s.getD q default).toList == v.toList)=false)) (sd s v):=have h:=Sk.cN _ (rC s v); h
theorem Bj (s:List ByteArray) (v:ByteArray):(gW s v).bO (fun _=>True):=by
  unfold gW
  exact sH

def o8 s v:=kp tok mixed Tryz.func209 [lv fZ s,sv v] (fun x=>iv x) true (sd s v) (u0 (Bj s v)) (rC s v)
def fx (s:List ByteArray) (v:ByteArray):Sk (Bool) :=
 .r 1 ((o8 s v).c) fun x1 =>
 .fin (decide (x1≥0))
def kn s v:=(fx s v).val
theorem vM (s:List ByteArray) (v:ByteArray):(fx s v).dj (fun (x:Bool)=>(x=true↔∃ q,q < s.length∧((s.getD q default).toList == v.toList)=true)):=by
  unfold fx
  try simp only [o8]
  exact U7

theorem xe (s:List ByteArray) (v:ByteArray):(fx s v).bO (fun _=>True):=by
  unfold fx
  try simp only [o8]
  exact DB

def qG s v:=kp tok mixed Tryz.func197 [lv fZ s,sv v] (fun x=>bv x) true (kn s v) (u0 (xe s v)) (vM s v)
def mC (names:List ByteArray) (i:Int):Sk (Int):=let aC:=(names.getD i.toNat default);
 .r 1 (.ak (.p (cM i names.length)) ((vL aC).c)) fun x1 =>
 .br (!x1)
 (.fin 2)
 (.r 3 (.ak (.ak (.o [.dU (TQ sD names 0 i.toNat)]) (.pt (0≤i∧i≤((names.length:Nat):Int)) (sD.lens names))) (.ak (.p (cM i names.length)) ((qG (dz names 0 i.toNat) aC).c))) fun x2 =>
 .br x2
 (.fin 5)
 (.fin 0))
def jU names i:=(mC names i).val
theorem FB (names:List ByteArray) (i:Int) (hi:0≤i∧i < (names.length:Int)):(mC names i).bO (fun _=>True):=by
  unfold mC
  try simp only [vL,qG]
  exact sH

def fD names i:=kk tok mixed Tryz.func166 [lv fZ names,iv i] (fun x=>iv x) true (mC names i) (jU names i) (FB names i)
def jr (p:Int):Sk (Bool) :=
 .fin true
def vN p:=(jr p).val
theorem zQ (p:Int):vN p=true:=rfl
theorem zR (p:Int):(jr p).bO (fun _=>True):=by
  unfold jr
  exact DB

def sX p:=kk tok mixed Tryz.func114 [iv p] (fun x=>bv x) true (jr p) (vN p) (u0 (zR p))
def js (names:List ByteArray) (fK:Int):Sk (Int) :=
 .br (decide (((names.length:Nat):Int) > fK))
 (.fin 6)
 (.bt
 (.loop (default:Sum (Int) (Unit)) (fun i2=>i2≤names.length) (fun i2=>names.length - i2) (0:Nat)
 (fun (i2:Nat)=>⟨[(15,iv ((i2:Nat):Int))],[]⟩) fun i2 =>
 .lt 0 0 i2 names.length
 (.r 6 ((fD names ((i2:Nat):Int)).c) fun x3 =>
 .br (x3 != 0)
 (.fin (.inl (.inl x3)))
 (.r 9 ((sX ((i2:Nat):Int)).c) fun x4 =>
 .br (!x4)
 (.fin (.inl (.inl 1)))
 (.nx 11 15 i2 (i2+1))))
 (.fin (.inl (.inr ()))))
 (fun (_:Unit)=>⟨[],[]⟩) fun _ =>
 .fin 0)
def jV names fK:=(js names fK).val
theorem zS (names:List ByteArray) (fK:Int):(js names fK).bO (fun _=>True):=by
  unfold js
  try simp only [sX,fD,zQ]
  exact AQ

def nF names fK:=kk tok mixed Tryz.func113 [lv fZ names,iv fK,.fn 114 []] (fun x=>iv x) true (js names fK) (jV names fK) (u0 (zS names fK))
def rD (i:Int) (n:Int):Sk (Bool) :=
 .fin ((decide (i≥0))&&(decide (i < n)))
def jW i n:=(rD i n).val
theorem iz (i:Int) (n:Int):jW i n=((decide (i≥0))&&(decide (i < n))):=rfl
theorem MO (i:Int) (n:Int):(rD i n).bO (fun _=>True):=by
  unfold rD
  exact DB

def bS i n:=kk tok mixed Tryz.func117 [iv i,iv n] (fun x=>bv x) true (rD i n) (jW i n) (u0 (MO i n))
def lA (l:List Int) (low:Int) (high:Int):Sk (Bool) :=
 .bt
 (.loop (default:Sum (Bool) (Unit)) (fun i2=>i2≤l.length) (fun i2=>l.length - i2) (0:Nat)
 (fun (i2:Nat)=>⟨[(11,iv ((i2:Nat):Int))],[]⟩) fun i2=>let dm:=(l.getD i2 default); let bF:=((i2:Nat):Int); let aC:=((decide (dm < low))||(decide (dm > high)));
 .lt 0 0 i2 l.length
 (.r 3 (.p (cM bF l.length)) fun _ =>
 .r 4 (.wh aC false (.wh (decide (bF > 0)) true (.p (cM (bI (bF - 1)) l.length)))) fun _ =>
 .br (aC||((decide (bF > 0))&&(decide (dm≤(l.getD ((bI (bF - 1)).toNat) default)))))
 (.fin (.inl (.inl false)))
 (.nx 6 11 i2 (i2+1)))
 (.fin (.inl (.inr ()))))
 (fun (_:Unit)=>⟨[],[]⟩) fun _ =>
 .fin true
def gC l low high:=(lA l low high).val
theorem CM (l:List Int) (low:Int) (high:Int):(lA l low high).bO (fun _=>True):=by
  unfold lA
  exact sH

def fT l low high:=kk tok mixed Tryz.func167 [lv cw l,iv low,iv high] (fun x=>bv x) true (lA l low high) (gC l low high) (u0 (CM l low high))
def nV (r:ai) (c_:nj):Sk (Bool):=let aC:=((decide (((c_.cK.length:Nat):Int) > 60))||(decide (((c_.shut.length:Nat):Int) > 200)));
 .bt
 (.loop (default:Sum (Bool) (Unit)) (fun i2=>i2≤c_.cK.length) (fun i2=>c_.cK.length - i2) (0:Nat)
 (fun (i2:Nat)=>⟨[(10,iv ((i2:Nat):Int))],[]⟩) fun i2=>let bF:=((c_.cK.getD i2 default).tmod 100);
 .lt 8 0 i2 c_.cK.length
 (.r 3 (.p (cM ((i2:Nat):Int) c_.cK.length)) fun _ =>
 .r 4 (.ak (.p ((100:Int)≠0)) (.wh (decide (bF < 1)) false (.p ((100:Int)≠0)))) fun _ =>
 .br ((decide (bF < 1))||(decide (bF > 31)))
 (.fin (.inl (.inl false)))
 (.nx 6 10 i2 (i2+1)))
 (.fin (.inl (.inr ()))))
 (fun (_:Unit)=>⟨[],[]⟩) fun _ =>
 .r 7 (.dep (.wh aC false ((bS c_.order ((r.aG.length:Nat):Int)).c)) fun x3=>.wh (aC||(!x3)) false ((bS c_.bh ((r.aM.length:Nat):Int)).c)) fun p9 =>
 .br ((aC||(!p9.1))||(!p9.2))
 (.fin false)
 (.r 9 (.dep ((fT c_.rest 0 6).c) fun x5=>.dep (.wh x5 true ((fT c_.cK 101 1231).c)) fun x6=>.wh (x5&&x6) true ((fT c_.shut 0 100000).c)) fun p8 =>
 .fin ((p8.1&&p8.2.1)&&p8.2.2))
def uy r c_:=(nV r c_).val
theorem G6 (r:ai) (c_:nj):(nV r c_).bO (fun _=>True):=by
  unfold nV
  try simp only [bS,fT,iz]
  exact AQ

def zT r c_:=kk tok mixed Tryz.func116 [av r.cells,av c_.cells] (fun x=>bv x) true (nV r c_) (uy r c_) (u0 (G6 r c_))
def jt (i:Int) (v:ai):Sk (Bool) :=
 .r 1 (.ak (.p (cM i v.aL.length)) ((zT v (v.aL.getD i.toNat default)).c)) fun x1 =>
 .fin x1
def FC i v:=(jt i v).val
theorem zU (i:Int) (v:ai) (hi:0≤i∧i < (v.aL.length:Int)):(jt i v).bO (fun _=>True):=by
  unfold jt
  try simp only [zT]
  exact sH

def sY i v:=kk tok mixed Tryz.func115 [iv i,.ref v.cells] (fun x=>bv x) true (jt i v) (FC i v) (zU i v)
def ju (names:List ByteArray) (fK:Int) (v:ai):Sk (Int) :=
 .br (decide (((names.length:Nat):Int) > fK))
 (.fin 6)
 (.bt
 (.loop (default:Sum (Int) (Unit)) (fun i2=>i2≤names.length) (fun i2=>names.length - i2) (0:Nat)
 (fun (i2:Nat)=>⟨[(15,iv ((i2:Nat):Int))],[]⟩) fun i2 =>
 .lt 0 0 i2 names.length
 (.r 6 ((fD names ((i2:Nat):Int)).c) fun x3 =>
 .br (x3 != 0)
 (.fin (.inl (.inl x3)))
 (.r 9 ((sY ((i2:Nat):Int) v).c) fun x4 =>
 .br (!x4)
 (.fin (.inl (.inl 1)))
 (.nx 11 15 i2 (i2+1))))
 (.fin (.inl (.inr ()))))
 (fun (_:Unit)=>⟨[],[]⟩) fun _ =>
 .fin 0)
def jX names fK v:=(ju names fK v).val
theorem zV (names:List ByteArray) (fK:Int) (v:ai) (hv:names.length≤v.aL.length):(ju names fK v).bO (fun _=>True):=by
  unfold ju
  try simp only [sY,fD]
  exact sH

def nG names fK v:=kk tok mixed Tryz.func113 [lv fZ names,iv fK,.fn 115 [.ref v.cells]] (fun x=>iv x) true (ju names fK v) (jX names fK v) (zV names fK v)
def jv (i:Int) (v:ai):Sk (Bool):=let aC:=(v.aQ.getD i.toNat default);
 .r 1 (.ak (.p (cM i v.aQ.length)) (.dep ((bS (aC.bn) ((v.aL.length:Nat):Int)).c) fun x1=>.ak (.wh x1 true (.p (cM i v.aQ.length))) (.wh x1 true ((bS (aC.group) ((v.ch.length:Nat):Int)).c)))) fun p3 =>
 .fin (p3.1&&p3.2)
def FD i v:=(jv i v).val
theorem zW (i:Int) (v:ai) (hi:0≤i∧i < (v.aQ.length:Int)):(jv i v).bO (fun _=>True):=by
  unfold jv
  try simp only [bS,iz]
  exact AQ

def sZ i v:=kk tok mixed Tryz.func118 [iv i,.ref v.cells] (fun x=>bv x) true (jv i v) (FD i v) (zW i v)
def jw (names:List ByteArray) (fK:Int) (v:ai):Sk (Int) :=
 .br (decide (((names.length:Nat):Int) > fK))
 (.fin 6)
 (.bt
 (.loop (default:Sum (Int) (Unit)) (fun i2=>i2≤names.length) (fun i2=>names.length - i2) (0:Nat)
 (fun (i2:Nat)=>⟨[(15,iv ((i2:Nat):Int))],[]⟩) fun i2 =>
 .lt 0 0 i2 names.length
 (.r 6 ((fD names ((i2:Nat):Int)).c) fun x3 =>
 .br (x3 != 0)
 (.fin (.inl (.inl x3)))
 (.r 9 ((sZ ((i2:Nat):Int) v).c) fun x4 =>
 .br (!x4)
 (.fin (.inl (.inl 1)))
 (.nx 11 15 i2 (i2+1))))
 (.fin (.inl (.inr ()))))
 (fun (_:Unit)=>⟨[],[]⟩) fun _ =>
 .fin 0)
def jY names fK v:=(jw names fK v).val
theorem zX (names:List ByteArray) (fK:Int) (v:ai) (hv:names.length≤v.aQ.length):(jw names fK v).bO (fun _=>True):=by
  unfold jw
  try simp only [sZ,fD]
  exact sH

def nH names fK v:=kk tok mixed Tryz.func113 [lv fZ names,iv fK,.fn 118 [.ref v.cells]] (fun x=>iv x) true (jw names fK v) (jY names fK v) (zX names fK v)
def mD (o:Order):Sk (Bool) :=
 .bind true (fun b1=>b1.length≤0+o.aN.length)
 (.loop (default:Sum (Bool) ((List Int))) (fun i2=>i2.2≤o.aN.length∧i2.1.length≤0+i2.2) (fun i2=>o.aN.length - i2.2) (([],0):(List Int) × Nat)
 (fun (i2:(List Int) × Nat)=>⟨[(3,ow 100002 i2.1),(12,iv ((i2.2:Nat):Int))],[(100002,cm 3 1 cw i2.1)]⟩) fun i2=>let aC:=(o.aN.getD i2.2 default);
 .lt 10 0 i2.2 o.aN.length
 (.r 4 (.p (cM ((i2.2:Nat):Int) o.aN.length)) fun _ =>
 .r 5 (.ak (.o [.dU (dw eJ [aC.ask])]) (.ak (.o [.dU (fo eJ i2.1 [aC.ask])]) (.ak (.t (eJ.jz [aC.ask])) (.p (jH i2.1.length [aC.ask].length 8))))) fun _ =>
 .r 6 ((bS (aC.H2) 5).c) fun x3 =>
 .br (!x3)
 (.fin (.inl (.inl false)))
 (.nx 8 12 i2.2 (i2.1++[aC.ask],i2.2+1)))
 (.fin (.inl (.inr i2.1))))
 (fun (b1:(List Int))=>⟨[(3,ow 100001 b1)],[(100001,cm 3 1 cw b1)]⟩) fun b1 =>
 .bind true (fun b4=>b4.length≤0+o.rules.length)
 (.loop (default:Sum (Bool) ((List Int))) (fun i5=>i5.2≤o.rules.length∧i5.1.length≤0+i5.2) (fun i5=>o.rules.length - i5.2) (([],0):(List Int) × Nat)
 (fun (i5:(List Int) × Nat)=>⟨[(4,ow 100005 i5.1),(29,iv ((i5.2:Nat):Int))],[(100005,cm 3 1 cw i5.1)]⟩) fun i5=>let bF:=(o.rules.getD i5.2 default);
 .lt 27 0 i5.2 o.rules.length
 (.r 11 (.p (cM ((i5.2:Nat):Int) o.rules.length)) fun _ =>
 .r 12 (.ak (.o [.dU (dw eJ [bF.ask])]) (.ak (.o [.dU (fo eJ i5.1 [bF.ask])]) (.ak (.t (eJ.jz [bF.ask])) (.p (jH i5.1.length [bF.ask].length 8))))) fun _ =>
 .nx 13 29 i5.2 (i5.1++[bF.ask],i5.2+1))
 (.fin (.inl (.inr i5.1))))
 (fun (b4:(List Int))=>⟨[(4,ow 100004 b4)],[(100004,cm 3 1 cw b4)]⟩) fun b4 =>
 .r 14 (.dep ((fT b1 0 21).c) fun x6=>.wh x6 true ((fT b4 0 21).c)) fun p8 =>
 .fin (p8.1&&p8.2)
def rE o:=(mD o).val
theorem FE (o:Order) (ho:o.aN.length≤1000000∧o.rules.length≤1000000):(mD o).bO (fun _=>True):=by
  unfold mD
  try simp only [bS,fT,iz]
  exact AQ

def xB o:=kk tok mixed Tryz.func120 [av o.cells] (fun x=>bv x) true (mD o) (rE o) (FE o)
def jx (i:Int) (v:ai):Sk (Bool) :=
 .r 1 (.ak (.p (cM i v.aG.length)) ((xB (v.aG.getD i.toNat default)).c)) fun x1 =>
 .fin x1
def FF i v:=(jx i v).val
theorem zY (i:Int) (v:ai) (hi:0≤i∧i < (v.aG.length:Int)) (hv:v.Small):(jx i v).bO (fun _=>True):=by
  simp only [aA.Small,ai.Small] at hv
  unfold jx
  try simp only [xB,aA.Small,ai.Small]
  exact sH

def tc i v:=kk tok mixed Tryz.func119 [iv i,.ref v.cells] (fun x=>bv x) true (jx i v) (FF i v) (u2 (zY i v))
def jy (names:List ByteArray) (fK:Int) (v:ai):Sk (Int) :=
 .br (decide (((names.length:Nat):Int) > fK))
 (.fin 6)
 (.bt
 (.loop (default:Sum (Int) (Unit)) (fun i2=>i2≤names.length) (fun i2=>names.length - i2) (0:Nat)
 (fun (i2:Nat)=>⟨[(15,iv ((i2:Nat):Int))],[]⟩) fun i2 =>
 .lt 0 0 i2 names.length
 (.r 6 ((fD names ((i2:Nat):Int)).c) fun x3 =>
 .br (x3 != 0)
 (.fin (.inl (.inl x3)))
 (.r 9 ((tc ((i2:Nat):Int) v).c) fun x4 =>
 .br (!x4)
 (.fin (.inl (.inl 1)))
 (.nx 11 15 i2 (i2+1))))
 (.fin (.inl (.inr ()))))
 (fun (_:Unit)=>⟨[],[]⟩) fun _ =>
 .fin 0)
def jZ names fK v:=(jy names fK v).val
theorem zZ (names:List ByteArray) (fK:Int) (v:ai) (hv:names.length≤v.aG.length) (hs:v.Small):(jy names fK v).bO (fun _=>True):=by
  simp only [aA.Small,ai.Small] at hs
  unfold jy
  try simp only [tc,fD,aA.Small,ai.Small]
  exact sH

def nI names fK v:=kk tok mixed Tryz.func113 [lv fZ names,iv fK,.fn 119 [.ref v.cells]] (fun x=>iv x) true (jy names fK v) (jZ names fK v) (u2 (zZ names fK v))
def gX (r:ai):Sk (Int):=let yI:=((r.aI.length:Nat):Int); let lU:=((r.aL.length:Nat):Int);
 .br (decide (yI > 100))
 (.fin 6)
 (.bt
 (.loop (default:Sum (Int) (Unit)) (fun i2=>i2≤r.aI.length) (fun i2=>r.aI.length - i2) (0:Nat)
 (fun (i2:Nat)=>⟨[(14,iv (i2:Int))],[]⟩) fun i2=>let dm:=(i2:Int); let bF:=(dz r.aI 0 i2); let aC:=(r.aI.getD i2 default); let yH:=(decide ((aC.days) > 20000)); let eX:=(decide ((aC.days) < 1));
 .lt 12 0 i2 r.aI.length
 (.bt
 (.r 5 (.p (cM dm r.aI.length)) fun _ =>
 .r 6 (.dep ((bS (aC.from_) lU).c) fun x4=>.wh (!x4) false ((bS (aC.cH) lU).c)) fun p8=>let l8:=((!p8.1)||(!p8.2));
 .br ((l8||eX)||yH)
 (.fin (.inl (.inl (.inl 1))))
 (.r 8 (.ak (.o [.dU (TQ dc.E r.aI 0 i2)]) (.pt (0≤dm∧dm≤yI) (dc.E.lens r.aI))) fun _ =>
 .bt
 (.loop (default:Sum (Sum (Sum (Sum (Int) (Unit)) (Nat)) (Int × Int × dc × Int × (List nj) × Int × Bool × Bool × Bool × Bool × Bool × Bool × Bool × Bool × (List dc) × Int × (List dc) × Int × Int × Bool)) (Int × Bool)) (fun i7=>i7≤bF.length) (fun i7=>bF.length - i7) (0:Nat)
 (fun (i7:Nat)=>⟨[(50,iv (i7:Int))],[]⟩) fun i7=>let uW:=(i7:Int);
 .lt 48 0 i7 (bF.length)
 (.r 10 (.p (cM uW (bF.length))) fun _ =>
 .br ((((bF.getD i7 default).from_) == (aC.from_))&&(((bF.getD i7 default).cH) == (aC.cH)))
 (.fin (.inl (.inl (.inl (.inl (.inl 5))))))
 (.nx 13 50 i7 (i7+1)))
 (.fin (.inl (.inr (uW,decide (uW < ((bF.length:Nat):Int)))))))
 (fun (b6:Int × Bool)=>⟨[(50,iv b6.1),(51,bv b6.2)],[]⟩) fun b6 =>
 .fin (.inr (dm,dm,r.aI.getD i2 default,aC.from_,r.aL,lU,p8.1,!p8.1,!p8.1,(!p8.1)||(!p8.2),(!p8.1)||(!p8.2),l8||eX,l8||eX,(l8||eX)||yH,r.aI,dm,dz r.aI 0 i2,((bF.length:Nat):Int),b6.1,b6.2))))
 (fun (b3:Int × Int × dc × Int × (List nj) × Int × Bool × Bool × Bool × Bool × Bool × Bool × Bool × Bool × (List dc) × Int × (List dc) × Int × Int × Bool)=>⟨[(3,iv b3.1),(16,iv b3.2.1),(18,av b3.2.2.1.cells),(20,iv b3.2.2.2.1),(22,lv nj.cells b3.2.2.2.2.1),(23,iv b3.2.2.2.2.2.1),(24,bv b3.2.2.2.2.2.2.1),(25,bv b3.2.2.2.2.2.2.2.1),(26,bv b3.2.2.2.2.2.2.2.2.1),(34,bv b3.2.2.2.2.2.2.2.2.2.1),(35,bv b3.2.2.2.2.2.2.2.2.2.2.1),(39,bv b3.2.2.2.2.2.2.2.2.2.2.2.1),(40,bv b3.2.2.2.2.2.2.2.2.2.2.2.2.1),(44,bv b3.2.2.2.2.2.2.2.2.2.2.2.2.2.1),(46,lv dc.cells b3.2.2.2.2.2.2.2.2.2.2.2.2.2.2.1),(47,iv b3.2.2.2.2.2.2.2.2.2.2.2.2.2.2.2.1),(48,lv dc.cells b3.2.2.2.2.2.2.2.2.2.2.2.2.2.2.2.2.1),(49,iv b3.2.2.2.2.2.2.2.2.2.2.2.2.2.2.2.2.2.1),(50,iv b3.2.2.2.2.2.2.2.2.2.2.2.2.2.2.2.2.2.2.1),(51,bv b3.2.2.2.2.2.2.2.2.2.2.2.2.2.2.2.2.2.2.2)],[]⟩) fun _ =>
 .nx 14 14 i2 (i2+1))
 (.fin (.inl (.inr ()))))
 (fun (_:Unit)=>⟨[],[]⟩) fun _ =>
 .fin 0)
def kZ r:=(gX r).val
theorem Bk (r:ai):(gX r).bO (fun _=>True):=by
 unfold gX
 try simp only [bS,iz]
 exact AQ
def o9 r:=kk tok mixed Tryz.func121 [av r.cells] (fun x=>iv x) true (gX r) (kZ r) (u0 (Bk r))
def jg (r:ai):Sk (Int):=let eX:=((r.aM.length:Nat):Int);
 .br (decide (((r.dL.length:Nat):Int) > 100))
 (.fin 6)
 (.bt
 (.loop (default:Sum (Int) (Unit)) (fun i2=>i2≤r.dL.length) (fun i2=>r.dL.length - i2) (0:Nat)
 (fun (i2:Nat)=>⟨[(14,iv (i2:Int))],[]⟩) fun i2=>let aC:=(r.dL.getD i2 default);
 .lt 12 0 i2 r.dL.length
 (.r 5 (.p (cM (i2:Int) r.dL.length)) fun _ =>
 .r 6 (.dep ((bS (aC.from_) eX).c) fun x3=>.dep (.wh (!x3) false ((bS (aC.cH) eX).c)) fun x4=>let dm:=(((!x3)||(!x4))||((aC.from_) == (aC.cH))); .dep (.wh dm false ((bS (bI ((aC.num) - 1)) 1073741824).c)) fun x5=>.dep (.wh (dm||(!x5)) false ((bS (bI ((aC.den) - 1)) 1073741824).c)) fun x6=>.wh ((dm||(!x5))||(!x6)) false ((bS (aC.since) 100001).c)) fun p8 =>
 .br ((((((!p8.1)||(!p8.2.1))||((aC.from_) == (aC.cH)))||(!p8.2.2.1))||(!p8.2.2.2.1))||(!p8.2.2.2.2))
 (.fin (.inl (.inl 1)))
 (.nx 8 14 i2 (i2+1)))
 (.fin (.inl (.inr ()))))
 (fun (_:Unit)=>⟨[],[]⟩) fun _ =>
 .br (decide (((r.e9.length:Nat):Int) > 20))
 (.fin 6)
 (.bind true (fun b9=>r.jk)
 (.loop (default:Sum (Int) (Unit)) (fun i10=>(∀ i,i < i10→(r.e9.getD i default).cH≤100000)∧i10≤r.e9.length) (fun i10=>r.e9.length - i10) (0:Nat)
 (fun (i10:Nat)=>⟨[(69,iv (i10:Int))],[]⟩) fun i10=>let bF:=(r.e9.getD i10 default);
 .lt 67 0 i10 r.e9.length
 (.r 13 (.p (cM (i10:Int) r.e9.length)) fun _ =>
 .r 14 ((bS (bF.order) ((r.aG.length:Nat):Int)).c) fun JK =>
 .br ((((!JK)||(decide ((bF.from_) < 0)))||(decide ((bF.from_) > (bF.cH))))||(decide ((bF.cH) > 100000)))
 (.fin (.inl (.inl 1)))
 (.nx 16 69 i10 (i10+1)))
 (.fin (.inl (.inr ()))))
 (fun (_:Unit)=>⟨[],[]⟩) fun _ =>
 .fin 0))
def uz r:=(jg r).val
theorem FG (r:ai):(jg r).dj (fun (x:Int)=>x=0→r.jk):=by
 unfold jg
 try simp only [bS,iz,ai.jk]
 exact U8
theorem G7 (r:ai):(jg r).bO (fun _=>True):=by
 unfold jg
 try simp only [bS,iz,ai.jk]
 exact AQ
def uA r:=kp tok mixed Tryz.func122 [av r.cells] (fun x=>iv x) true (uz r) (u0 (G7 r)) (FG r)
def j3 (r:ai):Sk (Int) :=
 .r 1 ((sb r).c) fun x1 =>
 .r 2 ((nF r.aM 8).c) fun x2 =>
 .br (x2 != 0)
 (.fin x2)
 (.r 5 ((nG x1.1 40 r).c) fun x3 =>
 .br (x3 != 0)
 (.fin x3)
 (.br (decide (((r.ch.length:Nat):Int) > 20))
 (.fin 6)
 (.bt
 (.loop (default:Sum (Int) (Unit)) (fun i5=>i5≤r.ch.length) (fun i5=>r.ch.length - i5) (0:Nat)
 (fun (i5:Nat)=>⟨[(38,iv (i5:Int))],[]⟩) fun i5 =>
 .lt 36 0 i5 r.ch.length
 (.r 12 (.p (cM (i5:Int) r.ch.length)) fun _ =>
 .r 13 ((bS ((r.ch.getD i5 default).BW) 10).c) fun x6 =>
 .br (!x6)
 (.fin (.inl (.inl 1)))
 (.nx 15 38 i5 (i5+1)))
 (.fin (.inl (.inr ()))))
 (fun (_:Unit)=>⟨[],[]⟩) fun _ =>
 .r 16 ((nH x1.2.1 200 r).c) fun x7 =>
 .br (x7 != 0)
 (.fin x7)
 (.r 19 ((nI x1.2.2 20 r).c) fun x8 =>
 .br (x8 != 0)
 (.fin x8)
 (.r 22 ((o9 r).c) fun x9 =>
 .br (x9 != 0)
 (.fin x9)
 (.r 25 ((uA r).c) fun OP =>
 .fin OP))))))
def dt r:=(j3 r).val
theorem CN (r:ai):(j3 r).dj (fun (x:Int)=>x=0→r.jk):=by
 unfold j3
 try simp only [nF,nG,nH,nI,bS,sb,uA,o9,iz,aA.Small,ai.Small,ai.jk]
 exact U8
theorem FH (r:ai) (hr:r.Small):(j3 r).bO (fun _=>True):=by
 simp only [aA.Small,ai.Small,ai.jk] at hr
 unfold j3
 try simp only [nF,nG,nH,nI,bS,sb,uA,o9,iz,aA.Small,ai.Small,ai.jk]
 exact AQ
def se r:=kp tok mixed Tryz.func79 [av r.cells] (fun x=>iv x) true (dt r) (FH r) (CN r)
def ko (n:Int) (length:Int):Sk (Bool) :=
 .fin ((decide (n≥0))&&(decide (n < length)))
def bW n length:=(ko n length).val
theorem tg (n:Int) (length:Int):bW n length=((decide (n≥0))&&(decide (n < length))):=rfl
theorem Bl (n:Int) (length:Int):(ko n length).bO (fun _=>True):=by
 unfold ko
 exact DB
def dH n length:=kk tok mixed Tryz.func80 [iv n,iv length] (fun x=>bv x) true (ko n length) (bW n length) (u0 (Bl n length))
def gY (b:dV):Sk (Bool):=let aC:=(b.bp.unit == 0);
 .bind false (fun _=>True)
 (.br (b.bp.kind == 0)
 (.fin (.inr (b.bp.kind == 0)))
 (.fin (.inr (b.bp.kind == 4))))
 (fun (b1:Bool)=>⟨[(8,bv b1)],[]⟩) fun b1 =>
 .br b1
 (.fin ((b.bp.n == 0)&&aC))
 (.bind false (fun _=>True)
 (.br (b.bp.kind == 1)
 (.fin (.inr (b.bp.kind == 1)))
 (.fin (.inr (b.bp.kind == 2))))
 (fun (b2:Bool)=>⟨[(19,bv b2)],[]⟩) fun b2 =>
 .br b2
 (.fin (((decide (b.bp.n≥1))&&(decide (b.bp.n≤400)))&&(aC||(b.bp.unit == 1))))
 (.br (b.bp.kind == 3)
 (.fin (((decide (b.bp.n≥b.day))&&(decide (b.bp.n≤100000)))&&aC))
 (.fin false)))
def nW b:=(gY b).val
theorem Bm (b:dV):(gY b).bO (fun _=>True):=by
 unfold gY
 exact DB
def pc b:=kk tok mixed Tryz.func81 [av b.cells] (fun x=>bv x) true (gY b) (nW b) (u0 (Bm b))
def iY (r:ai) (from_:Int) (cH:Int):Sk (Int × Int) :=
 .bt
 (.loop (default:Sum (Int × Int) (Unit)) (fun i2=>i2≤r.aI.length) (fun i2=>r.aI.length - i2) (0:Nat)
 (fun (i2:Nat)=>⟨[(13,iv (i2:Int))],[]⟩) fun i2=>let aC:=(r.aI.getD i2 default);
 .lt 11 0 i2 r.aI.length
 (.r 3 (.p (cM (i2:Int) r.aI.length)) fun _ =>
 .br (((aC.from_) == from_)&&((aC.cH) == cH))
 (.fin (.inl (.inl (aC.days,0))))
 (.nx 6 13 i2 (i2+1)))
 (.fin (.inl (.inr ()))))
 (fun (_:Unit)=>⟨[],[]⟩) fun _ =>
 .fin (0,4)
def mE r from_ cH:=(iY r from_ cH).val
theorem CO (r:ai) (from_:Int) (cH:Int):(iY r from_ cH).bO (fun _=>True):=by
 unfold iY
 exact sH
def qH r from_ cH:=kk tok mixed Tryz.func82 [av r.cells,iv from_,iv cH] (fun x=>.il [iv x.1,iv x.2]) true (iY r from_ cH) (mE r from_ cH) (u0 (CO r from_ cH))
def gZ (r:ai) (b:dV):Sk (Int):=let eX:=((r.aL.length:Nat):Int); let dm:=((decide (b.flags < 0))||(decide (b.flags > 7))); let bF:=((r.aQ.length:Nat):Int);
 .r 1 ((se r).c) fun x1 =>
 .br (x1 != 0)
 (.fin x1)
 (.r 5 (.dep ((dH b.cD bF).c) fun x2=>.dep (.wh x2 true ((dH b.cL bF).c)) fun x3=>.dep (.wh (x2&&x3) true (.wh (b.cE == (-1)) false ((dH b.cE bF).c))) fun x4=>.wh ((x2&&x3)&&((b.cE == (-1))||x4)) true (.wh (b.need == (-1)) false ((dH b.need bF).c))) fun Cw=>let aC:=(!(((Cw.1&&Cw.2.1)&&((b.cE == (-1))||Cw.2.2.1))&&((b.need == (-1))||Cw.2.2.2)));
 .r 6 (.dep (.wh aC false ((dH b.bh ((r.aM.length:Nat):Int)).c)) fun x6=>.dep (.wh (aC||(!x6)) false ((dH b.bn eX).c)) fun x7=>.wh ((aC||(!x6))||(!x7)) false ((dH b.tE eX).c)) fun Gt =>
 .br (((aC||(!Gt.1))||(!Gt.2.1))||(!Gt.2.2))
 (.fin 1)
 (.br ((((((decide (b.sum < 1))||(decide (b.sum > 1099511627776)))||(decide (b.day < 0)))||(decide (b.day > 100000)))||(decide (b.iR < 0)))||(decide (b.iR > 1000)))
 (.fin 3)
 (.br ((decide (b.parts < 1))||(decide (b.parts > 4)))
 (.fin 15)
 (.r 12 (.wh (dm||(((Cp .i64 b.flags 4) != 0)&&(b.cE == (-1)))) false ((pc b).c)) fun x9 =>
 .br ((dm||(((Cp .i64 b.flags 4) != 0)&&(b.cE == (-1))))||(!x9))
 (.fin 2)
 (.br (b.bp.kind == 4)
 (.r 15 ((qH r b.bn b.tE).c) fun OP =>
 .fin OP.2)
 (.fin 0))))))
def dW r b:=(gZ r b).val
theorem z6 (r:ai) (b:dV):(gZ r b).dj (fun (x:Int)=>x=0→mV r b∧(b.cE = -1∨(0≤b.cE∧b.cE < r.aQ.length))):=by
 unfold gZ
 try simp only [se,qH,dH,pc,tg,aA.Small,ai.Small,ai.jk]
 exact U8
theorem Bn (r:ai) (b:dV) (fL:r.Small):(gZ r b).bO (fun _=>True):=by
 simp only [aA.Small,ai.Small,ai.jk] at fL
 unfold gZ
 try simp only [se,qH,dH,pc,tg,aA.Small,ai.Small,ai.jk]
 exact AQ
def iZ r b:=kp tok mixed Tryz.func46 [av r.cells,av b.cells] (fun x=>iv x) true (dW r b) (Bn r b) (z6 r b)
def rF (n:Int) (low:Int) (high:Int):Sk (Bool) :=
 .fin ((decide (n≥low))&&(decide (n≤high)))
def bj n low high:=(rF n low high).val
theorem du (n:Int) (low:Int) (high:Int):bj n low high=((decide (n≥low))&&(decide (n≤high))):=rfl
theorem MP (n:Int) (low:Int) (high:Int):(rF n low high).bO (fun _=>True):=by
 unfold rF
 exact DB
def aP n low high:=kk tok mixed Tryz.func48 [iv n,iv low,iv high] (fun x=>bv x) true (rF n low high) (bj n low high) (u0 (MP n low high))
def lB (f:aA) (i:Int) (part:Int):Sk (Bool) :=
 .r 1 (.wh (i == 0) false (.p (cM i f.af.length))) fun _ =>
 .fin ((i == 0)||(((f.af.getD i.toNat default).part) == part))
def pK f i part:=(lB f i part).val
theorem CP (f:aA) (i:Int) (part:Int) (hi:i=0∨(0≤i∧i < (f.af.length:Int))):(lB f i part).bO (fun _=>True):=by
 unfold lB
 exact sH
def fU f i part:=kk tok mixed Tryz.func124 [av f.cells,iv i,iv part] (fun x=>bv x) true (lB f i part) (pK f i part) (CP f i part)
def ja (s:List Int) (v:Int):Sk (Int) :=
 .bind true (fun b1=>∀ q,q < s.length→(s.getD q default == v)=false)
 (.loop (default:Sum (Int) (Unit)) (fun i2=>∀ q,q < i2→(s.getD q default == v)=false) (fun i2=>s.length - i2) (0:Nat)
 (fun (i2:Nat)=>⟨[(8,iv (i2:Int))],[]⟩) fun i2 =>
 .lt 0 0 i2 s.length
 (.r 4 (.p (cM (i2:Int) s.length)) fun _ =>
 .br (v == (s.getD i2 default))
 (.fin (.inl (.inl (i2:Int))))
 (.nx 6 8 i2 (i2+1)))
 (.fin (.inl (.inr ()))))
 (fun (_:Unit)=>⟨[],[]⟩) fun _ =>
 .fin (-1)
def J0 s v:=(ja s v).val
theorem Bo (s:List Int) (v:Int):(ja s v).dj (fun (x:Int)=>(x = -1∧∀ q,q < s.length→(s.getD q default == v)=false)∨(0≤x∧x < s.length∧(s.getD x.toNat default == v)=true∧∀ q,(q:Nat) < x.toNat→(s.getD q default == v)=false)):=by
 unfold ja
 exact U7
theorem CQ (s:List Int) (v:Int):(ja s v).bO (fun _=>True):=by
 unfold ja
 exact sH
def qI s v:=kp tok mixed Tryz.func198 [lv cw s,iv v] (fun x=>iv x) true (J0 s v) (u0 (CQ s v)) (Bo s v)
def fV (s:List Int) (v:Int):Sk (Bool) :=
 .r 1 ((qI s v).c) fun x1 =>
 .fin (decide (x1≥0))
def eC s v:=(fV s v).val
theorem pw (s:List Int) (v:Int):(fV s v).dj (fun (x:Bool)=>(x=true↔∃ q,q < s.length∧(s.getD q default == v)=true)):=by
 unfold fV
 try simp only [qI]
 exact U7
theorem oL (s:List Int) (v:Int):(fun (x:Bool)=>(x=true↔∃ q,q < s.length∧(s.getD q default == v)=true)) (eC s v):=have h:=Sk.cN _ (pw s v); h
theorem yy (s:List Int) (v:Int):(fV s v).bO (fun _=>True):=by
 unfold fV
 try simp only [qI]
 exact DB
def mF s v:=kp tok mixed Tryz.func168 [lv cw s,iv v] (fun x=>bv x) true (eC s v) (u0 (yy s v)) (pw s v)
def hM (f:aA) (i:Int) (kinds:List Int):Sk (Bool):=let aC:=(f.af.getD i.toNat default);
 .r 1 (.p (cM i f.af.length)) fun _ =>
 .r 2 (.dep ((aP (aC.for_) 0 (bI (i - 1))).c) fun x1=>.ak (.wh x1 true (.p (cM i f.af.length))) (.dep (.wh x1 true ((fU f (aC.for_) (aC.part)).c)) fun x2=>.ak (.wh (x1&&x2) true (.p (cM (aC.for_) f.af.length))) (.wh (x1&&x2) true ((mF kinds ((f.af.getD ((aC.for_).toNat) default).kind)).c)))) fun p4 =>
 .fin ((p4.1&&p4.2.1)&&p4.2.2)
def rG f i kinds:=(hM f i kinds).val
theorem CR (f:aA) (i:Int) (kinds:List Int) (hP:(0≤i∧i < (f.af.length:Int))∧f.af.length≤40):(hM f i kinds).dj (fun (x:Bool)=>x=true→0≤(f.af.getD i.toNat default).for_∧(f.af.getD i.toNat default).for_ < i):=by
 unfold hM
 try simp only [aP,fU,mF,du]
 exact U8
theorem Bp (f:aA) (i:Int) (kinds:List Int):(fun (x:Bool)=>((0≤i∧i < (f.af.length:Int))∧f.af.length≤40)→(x=true→0≤(f.af.getD i.toNat default).for_∧(f.af.getD i.toNat default).for_ < i)) (rG f i kinds):=fun hP=>have h:=Sk.cN _ (CR f i kinds hP); h
theorem FI (f:aA) (i:Int) (kinds:List Int) (hi:0≤i∧i < (f.af.length:Int)) (hf:f.af.length≤1000000):(hM f i kinds).bO (fun _=>True):=by
 unfold hM
 try simp only [aP,fU,mF,du]
 exact AQ
def k5 f i kinds:=kk tok mixed Tryz.func123 [av f.cells,iv i,lv cw kinds] (fun x=>bv x) true (hM f i kinds) (rG f i kinds) (u2 (FI f i kinds)) (fun (x:Bool)=>((0≤i∧i < (f.af.length:Int))∧f.af.length≤40)→(x=true→0≤(f.af.getD i.toNat default).for_∧(f.af.getD i.toNat default).for_ < i)) (Bp f i kinds)
def fE (r:ai) (f:aA) (i:Int):Sk (Bool):=let aC:=(f.af.getD i.toNat default); let eX:=((aC.flags) == 0); let dm:=(((aC.sum) == 0)&&eX);
 .r 1 (.p (cM i f.af.length)) fun _ =>
 .br ((!((i == 0) == ((aC.kind) == 0)))||(((aC.kind) != 2)&&((aC.cH) != (-1))))
 (.fin false)
 (.br ((((aC.kind) != 3)&&((aC.kind) != 4))&&((aC.for_) != (-1)))
 (.fin false)
 (.r 7 ((aP (aC.sum) 1 1099511627776).c) fun x1=>let bF:=((x1&&eX)&&((aC.fu) != f.bill.cL));
 .br ((aC.kind) == 0)
 (.fin (((((((aC.fu) == f.bill.cD)&&((aC.sum) == 0))&&((V5 .i64 (aC.flags) 1) == 1))&&((aC.part) == 0))&&((aC.day) == f.bill.day))&&((aC.bn) == f.bill.bn)))
 (.br ((aC.kind) == 1)
 (.fin (((aC.fu) == f.bill.cL)&&(x1&&eX)))
 (.br ((aC.kind) == 2)
 (.r 15 (.dep ((aP (aC.cH) (-1) (bI (((r.aQ.length:Nat):Int) - 1))).c) fun x2=>.wh (x2&&((aC.sum) == 0)) true ((aP (aC.flags) 0 7).c)) fun p4 =>
 .fin (((p4.1&&((aC.sum) == 0))&&p4.2)&&((Cp .i64 (aC.flags) 6) != 6)))
 (.br ((aC.kind) == 3)
 (.r 17 (.ak (.wh dm true (.o [.dU (dw eJ [0,1,2,4])])) (.wh dm true ((k5 f i [0,1,2,4]).c))) fun x5 =>
 .fin (dm&&x5))
 (.br ((aC.kind) == 4)
 (.r 19 (.ak (.wh bF true (.o [.dU (dw eJ [0,2])])) (.wh bF true ((k5 f i [0,2]).c))) fun x6 =>
 .fin (bF&&x6))
 (.fin false)))))))
def gG r f i:=(fE r f i).val
theorem FJ (r:ai) (f:aA) (i:Int) (hP:(0≤i∧i < (f.af.length:Int))∧f.af.length≤40∧r.aQ.length≤1000000):(fE r f i).dj (fun (x:Bool)=>x=true→BX f i.toNat∧U9 r f i.toNat):=by
 refine Sk.bM _ ?_
 unfold fE
 simp only [Sk.eO,Sk.db,reduceCtorEq,ON,kk,kp,k5,aP,du,forall_eq,maxLen]
 intro _ h1 h2
 obtain ⟨hi,hn,hr⟩:=hP
 have hw:bI ((r.aQ.length:Int) - 1)=(r.aQ.length:Int) - 1:=aD (by omega) (by omega)
 rw [hw]
 unfold BX U9 uV
 generalize f.af.getD i.toNat default=s at *
 have IK:(s.kind=0↔i.toNat=0)∧(s.kind=2∨s.cH = -1):=by
  by_cases a:i=0 <;> by_cases b:s.kind=0 <;> simp [a,b] at h1 ⊢ <;> omega
 clear h1
 obtain ⟨q1,q2⟩:=IK
 refine ⟨fun k0 h=>?_,fun k0=>⟨fun k1 h=>?_,fun k1=>⟨fun k2 h=>?_,fun k2=>⟨fun k3 hb h=>?_,fun k3 k4 hb h=>?_⟩⟩⟩⟩
 all_goals simp only [LN] at *
 ·exact ⟨⟨by omega,by omega,q1,by omega⟩,by omega⟩
 ·exact ⟨⟨by omega,by omega,q1,by omega⟩,by omega⟩
 ·exact ⟨⟨by omega,by omega,q1,by omega⟩,by omega⟩
 ·have:=hb ⟨hi,hn⟩ h.2
  exact ⟨⟨by omega,by omega,q1,fun _=>by omega⟩,by omega⟩
 ·have:=hb ⟨hi,hn⟩ h.2
  exact ⟨⟨by omega,by omega,q1,fun _=>by omega⟩,by omega⟩
theorem CS (r:ai) (f:aA) (i:Int):(fun (x:Bool)=>((0≤i∧i < (f.af.length:Int))∧f.af.length≤40∧r.aQ.length≤1000000)→(x=true→BX f i.toNat∧U9 r f i.toNat)) (gG r f i):=fun hP=>have h:=Sk.cN _ (FJ r f i hP); h
theorem G8 (r:ai) (f:aA) (i:Int) (hi:0≤i∧i < (f.af.length:Int)) (hf:f.af.length≤1000000):(fE r f i).bO (fun _=>True):=by
 unfold fE
 try simp only [k5,aP,du]
 exact AQ
def pL r f i:=kk tok mixed Tryz.func83 [av r.cells,av f.cells,iv i] (fun x=>bv x) true (fE r f i) (gG r f i) (u2 (G8 r f i)) (fun (x:Bool)=>((0≤i∧i < (f.af.length:Int))∧f.af.length≤40∧r.aQ.length≤1000000)→(x=true→BX f i.toNat∧U9 r f i.toNat)) (CS r f i)
theorem Ij {α:Type} [Inhabited α] (L:List α) (n i:Nat) (h:i < n):(dz L 0 n).getD i default=L.getD i default:=by
 simp [dz,List.getD,h]
def gH (r:ai) (f:aA) (i:Int):Sk (Int):=let bF:=(dz f.af 0 i.toNat); let aC:=(f.af.getD i.toNat default);
 .r 1 (.p (cM i f.af.length)) fun _ =>
 .r 2 ((aP (aC.part) 0 (bI (f.bill.parts - 1))).c) fun x1 =>
 .br (!x1)
 (.fin 15)
 (.r 4 (.dep ((aP (aC.fu) 0 (bI (((r.aQ.length:Nat):Int) - 1))).c) fun x2=>.wh (!x2) false ((aP (aC.bn) 0 (bI (((r.aL.length:Nat):Int) - 1))).c)) fun p8 =>
 .br ((!p8.1)||(!p8.2))
 (.fin 1)
 (.r 7 (.ak (.o [.dU (TQ Sign.E f.af 0 i.toNat)]) (.pt (0≤i∧i≤((f.af.length:Nat):Int)) (Sign.E.lens f.af))) fun _ =>
 .bind true (fun b4=>b4.1=(if i.toNat=0 then f.bill.day else (f.af.getD (i.toNat - 1) default).day))
 (.loop (default:Sum (Int) (Int × Bool)) (fun i5=>i5.2.2≤i.toNat∧i5.1=(if i5.2.2=0 then f.bill.day else (f.af.getD (i5.2.2 - 1) default).day)) (fun i5=>bF.length - i5.2.2) ((f.bill.day,false,0):Int × Bool × Nat)
 (fun (i5:Int × Bool × Nat)=>⟨[(8,iv i5.1),(9,bv i5.2.1),(51,iv (i5.2.2:Int))],[]⟩) fun i5=>let dm:=(bF.getD i5.2.2 default);
 .lt 49 0 i5.2.2 (bF.length)
 (.r 9 (.p (cM (i5.2.2:Int) (bF.length))) fun _ =>
 .r 12 .z fun _ =>
 .wi 51 (bI ((i5.2.2:Int)+1)) ((i5.2.2+1:Nat):Int) <|
 .fin (.inr (dm.day,i5.2.1||((((aC.kind) == 1)&&((dm.kind) == 1))&&((dm.part) == (aC.part))),i5.2.2+1)))
 (.fin (.inl (.inr (i5.1,i5.2.1)))))
 (fun (b4:Int × Bool)=>⟨[(8,iv b4.1),(9,bv b4.2)],[]⟩) fun b4 =>
 .r 13 ((aP (aC.day) b4.1 100000).c) fun x6 =>
 .br ((!x6)||((i == 0)&&((aC.day) != b4.1)))
 (.fin 13)
 (.r 15 ((pL r f i).c) fun x7 =>
 .br (!x7)
 (.fin 14)
 (.br b4.2
 (.fin 5)
 (.fin 0)))))
def gI r f i:=(gH r f i).val
theorem FK (r:ai) (f:aA) (i:Int) (hP:(0≤i∧i < (f.af.length:Int))∧f.af.length≤40∧r.aQ.length≤1000000∧mV r f.bill):(gH r f i).dj (fun (x:Int)=>x=0→oE r f i.toNat∧U9 r f i.toNat):=by
 refine Sk.bM _ ?_
 unfold gH
 simp only [Sk.eO,Sk.db,reduceCtorEq,ON,kk,kp,pL,aP,du,forall_eq,aA.Small,ai.Small,maxLen]
 intro _
 obtain ⟨hi,hn,hr,hB⟩:=hP
 have hB2:=hB.2.2.2.1
 refine ⟨fun _ h=>absurd h (by decide),fun Ux=>⟨fun _ h=>absurd h (by decide),fun Zq _=>⟨⟨⟨by omega,by simp⟩,fun k hk=>⟨fun hc _ _=>⟨⟨?_,?_⟩,?_⟩,fun hc=>?_⟩⟩,fun b hb=>⟨fun _ h=>absurd h (by decide),fun hd hF=>⟨fun _ h=>absurd h (by decide),fun hf=>⟨fun _ h=>absurd h (by decide),fun _=>?_⟩⟩⟩⟩⟩⟩
 all_goals (try simp only [LN] at hc)
 ·omega
 ·rw [Ij _ _ _ (by omega),if_neg (by simp)]; rfl
 ·simp only [lT] at hc ⊢; omega
 ·have e:k.2.2=i.toNat:=by omega
  rw [hk.2,e]
 ·have hF:=hF ⟨hi,hn,hr⟩ (by simpa using hf)
  simp only [LN] at Ux Zq hd
  obtain ⟨⟨w1,w2⟩,_⟩:=Zq
  obtain ⟨⟨d1,d2⟩,d3⟩:=hd
  rw [aD (by omega) (by omega)] at w2 Ux
  refine ⟨⟨⟨w1,by omega⟩,fun h0=>?_,d2,fun h0=>?_,Ux,hF.1⟩,hF.2⟩
  ·rw [if_neg h0] at hb
   rw [← hb]; exact d1
  ·rw [if_pos h0] at hb
   rw [← hb]
   rcases d3 with d3 | d3
   ·omega
   ·exact d3
theorem CU (r:ai) (f:aA) (i:Int):(fun (x:Int)=>((0≤i∧i < (f.af.length:Int))∧f.af.length≤40∧r.aQ.length≤1000000∧mV r f.bill)→(x=0→oE r f i.toNat∧U9 r f i.toNat)) (gI r f i):=fun hP=>have h:=Sk.cN _ (FK r f i hP); h
theorem G9 (r:ai) (f:aA) (i:Int) (hi:0≤i∧i < (f.af.length:Int)) (hf:f.af.length≤1000000) (hr:r.Small):(gH r f i).bO (fun _=>True):=by
 simp only [aA.Small,ai.Small] at hr
 refine Sk.bP _ ?_
 unfold gH
 simp only [Sk.oV,Sk.db,reduceCtorEq,ON,kk,kp,pL,aP,du,forall_eq,aA.Small,ai.Small,maxLen]
 refine ⟨hi,fun _ hp Zq=>⟨⟨hi.1,by omega⟩,fun _=>⟨⟨⟨by omega,by simp⟩,fun k hk hl=>⟨fun hc=>⟨⟨by omega,of_decide_eq_true hc⟩,fun _ _=>⟨?_,⟨⟨?_,?_⟩,?_⟩⟩⟩,fun hc=>?_⟩⟩,?_⟩⟩⟩
 all_goals (try simp only [LN] at hc)
 ·exact aD (by simp only [lT] at hl; omega) (by simp only [lT] at hl; omega)
 ·omega
 ·rw [Ij _ _ _ (by omega),if_neg (by simp)]; rfl
 ·simp only [lT] at hc ⊢; omega
 ·have e:k.2.2=i.toNat:=by omega
  rw [hk.2,e]
 ·intro b hb hd
  exact ⟨hi,hf⟩
def mG r f i:=kk tok mixed Tryz.func47 [av r.cells,av f.cells,iv i] (fun x=>iv x) true (gH r f i) (gI r f i) (u3 (G9 r f i)) (fun (x:Int)=>((0≤i∧i < (f.af.length:Int))∧f.af.length≤40∧r.aQ.length≤1000000∧mV r f.bill)→(x=0→oE r f i.toNat∧U9 r f i.toNat)) (CU r f i)
def iI (r:ai) (f:aA) (a:cd):Sk (Bool):=let dm:=(bI (((r.aQ.length:Nat):Int) - 1));
 .r 1 (.dep ((aP a.at_ 0 (bI (((f.af.length:Nat):Int) - 1))).c) fun x1=>.wh x1 true ((fU f a.at_ a.part).c)) fun Gt=>let aC:=((Gt.1&&Gt.2)&&(((f.af.getD a.at_.toNat default).fu) == a.fu));
 .r 2 (.wh (Gt.1&&Gt.2) true (.p (cM a.at_ f.af.length))) fun _ =>
 .r 3 ((aP a.cH 0 dm).c) fun x3=>let bF:=(x3&&(a.at_ == (-1)));
 .r 4 ((aP a.fu 0 dm).c) fun x4 =>
 .br ((!x4)||((a.kind != 4)&&(a.form != 0)))
 (.fin false)
 (.bind false (fun _=>True)
 (.br (a.kind == 0)
 (.fin (.inr (a.kind == 0)))
 (.br (a.kind == 1)
 (.fin (.inr (a.kind == 1)))
 (.fin (.inr (a.kind == 2)))))
 (fun (b5:Bool)=>⟨[(65,bv b5)],[]⟩) fun b5 =>
 .br b5
 (.fin (bF&&(a.sum == 0)))
 (.bind false (fun _=>True)
 (.br (a.kind == 3)
 (.fin (.inr (a.kind == 3)))
 (.br (a.kind == 5)
 (.fin (.inr (a.kind == 5)))
 (.fin (.inr (a.kind == 4)))))
 (fun (b6:Bool)=>⟨[(80,bv b6)],[]⟩) fun b6 =>
 .br b6
 (.r 14 (.dep (.wh bF true ((aP a.sum 0 1099511627776).c)) fun x7=>.wh (bF&&x7) true ((aP a.form 0 1).c)) fun p9 =>
 .fin ((bF&&p9.1)&&p9.2))
 (.br (a.kind == 6)
 (.r 16 (.wh (x3&&aC) true ((aP a.sum 1 1099511627776).c)) fun OP =>
 .fin ((x3&&aC)&&OP))
 (.br (a.kind == 9)
 (.fin (((a.cH == (-1))&&aC)&&(a.sum == 0)))
 (.fin (((a.cH == (-1))&&(Gt.1&&Gt.2))&&(a.sum == 0)))))))
def nJ r f a:=(iI r f a).val
theorem Ha (r:ai) (f:aA) (a:cd) (hP:f.af.length≤40):(iI r f a).dj (fun (x:Bool)=>x=true→(a.at_ = -1∨(0≤a.at_∧a.at_ < (f.af.length:Int)))∧uV a.sum∧(a.kind=6→0≤a.at_∧(f.af.getD a.at_.toNat default).fu=a.fu)):=by
 unfold iI
 try simp only [aP,fU,du]
 exact U8
theorem vO (r:ai) (f:aA) (a:cd):(fun (x:Bool)=>(f.af.length≤40)→(x=true→(a.at_ = -1∨(0≤a.at_∧a.at_ < (f.af.length:Int)))∧uV a.sum∧(a.kind=6→0≤a.at_∧(f.af.getD a.at_.toNat default).fu=a.fu))) (nJ r f a):=fun hP=>have h:=Sk.cN _ (Ha r f a hP); h
theorem J1 (r:ai) (f:aA) (a:cd) (hf:f.af.length≤1000000):(iI r f a).bO (fun _=>True):=by
 unfold iI
 try simp only [aP,fU,du]
 exact AQ
def rH r f a:=kk tok mixed Tryz.func84 [av r.cells,av f.cells,av a.cells] (fun x=>bv x) true (iI r f a) (nJ r f a) (J1 r f a) (fun (x:Bool)=>(f.af.length≤40)→(x=true→(a.at_ = -1∨(0≤a.at_∧a.at_ < (f.af.length:Int)))∧uV a.sum∧(a.kind=6→0≤a.at_∧(f.af.getD a.at_.toNat default).fu=a.fu))) (vO r f a)
def gJ (r:ai) (f:aA):Sk (Int) :=
 .bind true (fun b1=>∀ q,q < f.bq.length→nk f q)
 (.loop (default:Sum (Int) (Unit)) (fun i2=>i2≤f.bq.length∧∀ q,q < i2→nk f q) (fun i2=>f.bq.length - i2) (0:Nat)
 (fun (i2:Nat)=>⟨[(11,iv (i2:Int))],[]⟩) fun i2=>let bF:=(i2:Int); let aC:=(f.bq.getD i2 default); let dm:=(f.af.getD aC.at_.toNat default);
 .lt 9 0 i2 f.bq.length
 (.r 3 (.p (cM bF f.bq.length)) fun _ =>
 .r 4 ((aP (aC.part) 0 (bI (f.bill.parts - 1))).c) fun x3 =>
 .br (!x3)
 (.fin (.inl (.inl 15)))
 (.r 6 (.dep ((aP (aC.bn) 0 (bI (((r.aL.length:Nat):Int) - 1))).c) fun x4=>.wh (!x4) false ((aP (aC.kind) 0 9).c)) fun EV =>
 .br ((!EV.1)||(!EV.2))
 (.fin (.inl (.inl 1)))
 (.r 8 ((rH r f aC).c) fun x6 =>
 .br (!x6)
 (.fin (.inl (.inl 14)))
 (.bind false (fun b7=>f.bill.day≤b7∧(0≤aC.at_→dm.day≤b7))
 (.br ((aC.at_) != (-1))
 (.r 12 (.p (cM (aC.at_) f.af.length)) fun _ =>
 .fin (.inr (oU f.bill.day ((f.af.getD ((aC.at_).toNat) default).day))))
 (.fin (.inr f.bill.day)))
 (fun (b7:Int)=>⟨[(7,iv b7)],[]⟩) fun b7 =>
 .bind false (fun b8=>f.bill.day≤b8∧(0≤aC.at_→dm.day≤b8)∧(i2≠0→(f.bq.getD (i2 - 1) default).day≤b8))
 (.br (decide (bF > 0))
 (.r 14 (.p (cM (bI (bF - 1)) f.bq.length)) fun _ =>
 .fin (.inr (oU b7 ((f.bq.getD ((bI (bF - 1)).toNat) default).day))))
 (.fin (.inr b7)))
 (fun (b8:Int)=>⟨[(7,iv b8)],[]⟩) fun b8 =>
 .r 15 ((aP (aC.day) b8 100000).c) fun x9 =>
 .br (!x9)
 (.fin (.inl (.inl 13)))
 (.nx 17 11 i2 (i2+1))))))
 (.fin (.inl (.inr ()))))
 (fun (_:Unit)=>⟨[],[]⟩) fun _ =>
 .fin 0
def lL r f:=(gJ r f).val
theorem FL (r:ai) (f:aA) (hP:f.af.length≤40∧f.bq.length≤100):(gJ r f).dj (fun (x:Int)=>x=0→∀ q,q < f.bq.length→nk f q):=by
 refine Sk.bM _ ?_
 unfold gJ
 simp only [Sk.eO,Sk.db,reduceCtorEq,ON,kk,kp,rH,aP,du,forall_eq,maxLen]
 obtain ⟨hf,ha⟩:=hP
 refine ⟨⟨⟨by omega,fun q hq=>absurd hq (by omega)⟩,fun k hk=>⟨fun hc _=>⟨fun _ h=>absurd h (by decide),fun _=>⟨fun _ h=>absurd h (by decide),fun _ WG=>⟨fun _ h=>absurd h (by decide),fun ha2=>⟨⟨fun _ _=>⟨?_,fun _=>?_⟩,fun gN=>⟨Int.le_refl _,fun h=>?_⟩⟩,fun b _ hb=>⟨⟨fun IK _=>⟨?_,fun h=>?_,fun _=>?_⟩,fun IK=>⟨hb.1,hb.2,fun h=>?_⟩⟩,fun c _ KC=>⟨fun _ h=>absurd h (by decide),fun hd _=>⟨⟨?_,fun q hq=>?_⟩,?_⟩⟩⟩⟩⟩⟩⟩,fun hc q hq=>hk.2 q (by simp only [LN] at hc; omega)⟩⟩,?_⟩
 all_goals (try simp only [LN] at hc)
 ·unfold oU; omega
 ·unfold oU; omega
 ·simp only [LN] at gN; omega
 ·have:=hb.1; unfold oU; omega
 ·have:=hb.2 h; unfold oU; omega
 ·simp only [LN] at IK
  have e:(bI ((k:Int) - 1)).toNat=k - 1:=by rw [aD (by omega) (by omega)]; omega
  rw [e]; unfold oU; omega
 ·simp only [LN] at IK; omega
 ·omega
 ·simp only [LN] at hd
  by_cases e:q=k
  ·subst e
   have A:=WG hf (by simpa using ha2)
   exact ⟨A.2.1,⟨by omega,hd.2⟩,fun h=>by have:=KC.2.2 h; omega,fun h6=>⟨⟨(A.2.2 h6).1,by have:=(A.2.2 h6).1; have:=A.1; omega⟩,by have:=KC.2.1 (A.2.2 h6).1; omega,(A.2.2 h6).2⟩⟩
  ·exact hk.2 q (by omega)
 ·omega
 ·first | exact fun _ hb=>hb | exact fun _ hb _=>hb | trivial
theorem CV (r:ai) (f:aA):(fun (x:Int)=>(f.af.length≤40∧f.bq.length≤100)→(x=0→∀ q,q < f.bq.length→nk f q)) (lL r f):=fun hP=>have h:=Sk.cN _ (FL r f hP); h
theorem Hb (r:ai) (f:aA) (hf:f.af.length≤40) (ha:f.bq.length≤1000000):(gJ r f).bO (fun _=>True):=by
 refine Sk.bP _ ?_
 unfold gJ
 simp only [Sk.oV,Sk.db,reduceCtorEq,ON,kk,kp,rH,aP,du,forall_eq,maxLen]
 refine ⟨⟨by omega,fun q hq=>absurd hq (by omega)⟩,fun k hk hl=>⟨fun hc=>⟨⟨by omega,of_decide_eq_true hc⟩,fun _ _ _=>⟨by omega,fun WG ha2=>⟨⟨fun gN=>⟨?_,fun _=>⟨?_,fun _=>?_⟩⟩,fun gN=>⟨Int.le_refl _,fun h=>?_⟩⟩,fun b _ hb=>⟨⟨fun IK=>⟨⟨?_,?_⟩,fun _=>⟨?_,fun h=>?_,fun _=>?_⟩⟩,fun IK=>⟨hb.1,hb.2,fun h=>?_⟩⟩,fun c _ KC hd _=>⟨?_,⟨?_,fun q hq=>?_⟩,?_⟩⟩⟩⟩⟩,fun hc q hq=>hk.2 q (by simp only [LN] at hc; omega)⟩⟩
 all_goals (try simp only [LN] at hc)
 ·simp only [LN] at gN
  have:=(WG hf (by simpa using ha2)).1
  omega
 ·unfold oU; omega
 ·unfold oU; omega
 ·simp only [LN] at gN; omega
 ·simp only [LN] at IK; rw [aD (by omega) (by omega)]; omega
 ·simp only [LN] at IK; rw [aD (by omega) (by omega)]; omega
 ·have:=hb.1; unfold oU; omega
 ·have:=hb.2 h; unfold oU; omega
 ·simp only [LN] at IK
  have e:(bI ((k:Int) - 1)).toNat=k - 1:=by rw [aD (by omega) (by omega)]; omega
  rw [e]; unfold oU; omega
 ·simp only [LN] at IK; omega
 ·exact aD (by omega) (by omega)
 ·omega
 ·simp only [LN] at hd
  by_cases e:q=k
  ·subst e
   have A:=WG hf (by simpa using ha2)
   exact ⟨A.2.1,⟨by omega,hd.2⟩,fun h=>by have:=KC.2.2 h; omega,fun h6=>⟨⟨(A.2.2 h6).1,by have:=(A.2.2 h6).1; have:=A.1; omega⟩,by have:=KC.2.1 (A.2.2 h6).1; omega,(A.2.2 h6).2⟩⟩
  ·exact hk.2 q (by omega)
 ·omega
def mH r f:=kk tok mixed Tryz.func49 [av r.cells,av f.cells] (fun x=>iv x) true (gJ r f) (lL r f) (u2 (Hb r f)) (fun (x:Int)=>(f.af.length≤40∧f.bq.length≤100)→(x=0→∀ q,q < f.bq.length→nk f q)) (CV r f)
def pM (x_:Int):Sk (Bool) :=
 .fin (x_ != x_)
def wM x_:=(pM x_).val
theorem J2 (x_:Int):wM x_=(x_ != x_):=rfl
theorem J3 (x_:Int):(pM x_).bO (fun _=>True):=by
 unfold pM
 exact DB
def rI x_:=kk tok mixed Tryz.func125 [iv x_] (fun x=>bv x) true (pM x_) (wM x_) (u0 (J3 x_))
def j4 (x_:Int) (y:Int):Sk (Int) :=
 .r 1 ((rI x_).c) fun x1 =>
 .r 2 ((rI y).c) fun x2 =>
 .br x1
 (.br x2
 (.fin 0)
 (.fin (-1)))
 (.br x2
 (.fin 1)
 (.br (decide (x_ < y))
 (.fin (-1))
 (.br (decide (x_ > y))
 (.fin 1)
 (.fin 0))))
def gD x_ y:=(j4 x_ y).val
theorem FM (x_:Int) (y:Int):(j4 x_ y).bO (fun _=>True):=by
 unfold j4
 try simp only [rI,J2]
 exact AQ
def nX x_ y:=kk tok mixed Tryz.func86 [iv x_,iv y] (fun x=>iv x) true (j4 x_ y) (gD x_ y) (u0 (FM x_ y))
def th (cy:List Int):Sk (Int) :=
 .bt
 (.loop (default:Sum (Int) (Unit)) (fun i2=>i2≤cy.length) (fun i2=>cy.length - i2) (0:Nat)
 (fun (i2:Nat)=>⟨[(8,iv (i2:Int))],[]⟩) fun i2 =>
 .lt 6 0 i2 cy.length
 (.r 4 (.p (cM (i2:Int) cy.length)) fun _ =>
 .br ((cy.getD i2 default) != 0)
 (.fin (.inl (.inl (cy.getD i2 default))))
 (.nx 7 8 i2 (i2+1)))
 (.fin (.inl (.inr ()))))
 (fun (_:Unit)=>⟨[],[]⟩) fun _ =>
 .fin 0
def Bq cy:=(th cy).val
theorem RD (cy:List Int):(th cy).bO (fun _=>True):=by
 unfold th
 exact sH
def FN cy:=kk tok mixed Tryz.func85 [lv cw cy] (fun x=>iv x) true (th cy) (Bq cy) (u0 (RD cy))
theorem DE (x y:Int):gD x y=if x < y then -1 else if x > y then 1 else 0:=by
 have h:∀ x:Int,wM x=false:=fun x=>by
  have:wM x=(x != x):=rfl
  rw [this]; simp
 simp only [gD,j4,Sk.da,Sk.fR,Sk.cg,iM.Cq,kk,kp,rI,h,cond_false,Bool.cond_eq_ite,decide_eq_true_eq]
 simp only [if_neg Bool.false_ne_true]
theorem Qb (a b:Int):Bq [a,b]=if a≠0 then a else b:=by
 simp only [Bq,th,Sk.cQ,Sk.eV,Sk.fA,Sk.da,Sk.fR,Sk.iC,Sk.cg,iM.Cq,kk,kp]
 refine (gS [a,b] (fun s i=>i) (fun x (_:Unit)=>bif x != 0 then .inl x else .inr ()) id _ (fun s i hi=>?_) (fun s=>?_) (by simp) ()).trans ?_
 ·have h2:((i:Nat):Int) < (([a,b].length:Nat):Int):=by omega
  rw [decide_eq_true h2,cond_true]
  cases (([a,b].getD i default) != 0) <;> rfl
 ·rw [decide_eq_false (by simp),cond_false]
 ·simp only [walk]
  by_cases h:a=0
  ·have:(a != 0)=false:=by simp [h]
   rw [this]
   by_cases h2:b=0
   ·have:(b != 0)=false:=by simp [h2]
    rw [this]; simp [h,h2]
   ·have:(b != 0)=true:=by simp [h2]
    rw [this]; simp [h]
  ·have:(a != 0)=true:=by simp [h]
   rw [this]; simp [h]
theorem adN (a b c d:Int):Bq [gD a b,gD c d] > 0↔(a > b∨(a=b∧c > d)):=by
 rw [Qb,DE,DE]
 (repeat' split) <;> omega
theorem WH (a b c d:Int):Bq [gD a b,gD c d]≥0↔¬ (a < b∨(a=b∧c < d)):=by
 rw [Qb,DE,DE]
 (repeat' split) <;> omega
def WI (x y:Fact):Prop:=x.at_ < y.at_∨(x.at_=y.at_∧x.kind < y.kind)
def Nz (n:Nat) (x:Fact):Prop:=(0≤x.kind∧x.kind≤4)∧(0≤x.at_∧x.at_ < (n:Int))∧(x.n=0∨x.n=1)
def Sf (n:Nat) (F:List Fact):Prop:=(∀ x,x∈F→Nz n x)∧F.Pairwise WI
theorem Sf.push {n:Nat} {F:List Fact} {i:Nat} (h:Sf n (F.take i)) (hi:i < F.length) (hx:Nz n (F.getD i default)) (hl:i≠0→WI (F.getD (i - 1) default) (F.getD i default)):Sf n (F.take (i+1)):=by
 have e:F.getD i default=F[i]:=by simp [List.getD,hi]
 rw [e] at hx hl
 rw [List.take_succ_eq_append_getElem hi]
 refine ⟨fun x hm=>?_,List.pairwise_append.2 ⟨h.2,List.pairwise_singleton _ _,fun a ha b hb=>?_⟩⟩
 ·rcases List.mem_append.1 hm with hm | hm
  ·exact h.1 x hm
  ·rw [List.mem_singleton] at hm; rw [hm]; exact hx
 ·rw [List.mem_singleton] at hb
  subst hb
  by_cases h0:i=0
  ·subst h0; simp at ha
  ·have hl:=hl h0
   have e2:F.getD (i - 1) default=F[i - 1]:=by simp [List.getD,show i - 1 < F.length by omega]
   rw [e2] at hl
   have e3:F.take i=F.take (i - 1)++[F[i - 1]]:=by
    have:=List.take_succ_eq_append_getElem (show i - 1 < F.length by omega)
    rwa [show i - 1+1=i by omega] at this
   rw [e3] at ha
   rcases List.mem_append.1 ha with ha | ha
   ·have hp:=h.2
    rw [e3] at hp
    have:=(List.pairwise_append.1 hp).2.2 a ha F[i - 1] (by simp)
    unfold WI at this hl ⊢
    omega
   ·rw [List.mem_singleton] at ha; rw [ha]; exact hl
theorem Sf.at_ {n:Nat} {F:List Fact} (h:Sf n F) {i:Nat} (hi:i < F.length):Nz n (F.getD i default)∧(i≠0→WI (F.getD (i - 1) default) (F.getD i default)):=by
 have e:∀ j (hj:j < F.length),F.getD j default=F[j]:=fun j hj=>by simp [List.getD,hj]
 refine ⟨h.1 _ (oD hi _),fun h0=>?_⟩
 rw [e _ hi,e _ (by omega)]
 exact List.pairwise_iff_getElem.1 h.2 _ _ _ _ (by omega)
theorem Uy (x y:Fact):Bq [gD x.at_ y.at_,gD x.kind y.kind]≥0↔¬ WI x y:=WH _ _ _ _
def hU (f:aA):Sk (Int) :=
 .bind true (fun b1=>((f.af.length≤1000000∧f.facts.length≤1000000)→Sf f.af.length f.facts))
 (.loop (default:Sum (Int) (Unit)) (fun i2=>i2≤f.facts.length∧((f.af.length≤1000000∧f.facts.length≤1000000)→Sf f.af.length (f.facts.take i2))) (fun i2=>f.facts.length - i2) (0:Nat)
 (fun (i2:Nat)=>⟨[(9,iv (i2:Int))],[]⟩) fun i2=>let bF:=(i2:Int); let dm:=(f.facts.getD ((bI (bF - 1)).toNat) default); let aC:=(f.facts.getD i2 default);
 .lt 7 0 i2 f.facts.length
 (.r 3 (.p (cM bF f.facts.length)) fun _ =>
 .r 4 (.dep ((aP (aC.kind) 0 4).c) fun x3=>.dep (.wh (!x3) false ((aP (aC.at_) 0 (bI (((f.af.length:Nat):Int) - 1))).c)) fun x4=>.wh ((!x3)||(!x4)) false ((aP (aC.n) 0 1).c)) fun EV =>
 .br (((!EV.1)||(!EV.2.1))||(!EV.2.2))
 (.fin (.inl (.inl 1)))
 (.br (bF == 0)
 (.nx 10 9 i2 (i2+1))
 (.r 7 (.p (cM (bI (bF - 1)) f.facts.length)) fun _ =>
 .r 8 (.dep ((nX (dm.at_) (aC.at_)).c) fun x6=>.dep ((nX (dm.kind) (aC.kind)).c) fun x7=>.ak (.o [.dU (dw eJ [x6,x7])]) ((FN [x6,x7]).c)) fun p9 =>
 .br (decide (p9.2.2≥0))
 (.fin (.inl (.inl 5)))
 (.nx 10 9 i2 (i2+1)))))
 (.fin (.inl (.inr ()))))
 (fun (_:Unit)=>⟨[],[]⟩) fun _ =>
 .fin 0
def vP f:=(hU f).val
theorem CW (f:aA) (hP:f.af.length≤1000000∧f.facts.length≤1000000):(hU f).dj (fun (x:Int)=>x=0↔Sf f.af.length f.facts):=by
 refine Sk.bM _ ?_
 unfold hU
 simp only [Sk.eO,Sk.db,reduceCtorEq,ON,kk,kp,nX,FN,aP,du,forall_eq,maxLen]
 refine ⟨⟨⟨Nat.zero_le _,fun _=>⟨fun x hx=>by simp at hx,by simp⟩⟩,fun i hi=>⟨fun hc _=>⟨fun h=>?_,fun h=>⟨fun h0 _=>⟨⟨?_,fun _=>?_⟩,?_⟩,fun h0 _=>⟨fun hd=>?_,fun hd _=>⟨⟨?_,fun _=>?_⟩,?_⟩⟩⟩⟩,fun hc _=>?_⟩⟩,fun _ hb=>⟨fun _=>hb hP,fun _=>trivial⟩⟩
 all_goals simp only [LN] at hc
 all_goals try omega
 ·refine ⟨fun e=>absurd e (by omega),fun hF=>?_⟩
  have:=(hF.at_ (show i < f.facts.length by omega)).1
  unfold Nz at this
  simp only [LN] at h
  rw [aD (by omega) (by omega)] at h
  omega
 ·have hx:Nz f.af.length (f.facts.getD i default):=by
   unfold Nz
   simp only [LN] at h
   rw [aD (by omega) (by omega)] at h
   omega
  exact (hi.2 hP).push (by omega) hx (fun hn=>absurd (by simpa using h0) hn)
 ·have hn:i≠0:=by simpa using h0
  refine ⟨fun e=>absurd e (by omega),fun hF=>?_⟩
  have hl:=(hF.at_ (show i < f.facts.length by omega)).2 hn
  rw [aD (by omega) (by omega),show ((i:Int) - 1).toNat=i - 1 by omega,decide_eq_true_eq,Uy] at hd
  exact absurd hl hd
 ·have hn:i≠0:=by simpa using h0
  have hx:Nz f.af.length (f.facts.getD i default):=by
   unfold Nz
   simp only [LN] at h
   rw [aD (by omega) (by omega)] at h
   omega
  rw [aD (by omega) (by omega),show ((i:Int) - 1).toNat=i - 1 by omega,decide_eq_false_iff_not,Uy,Classical.not_not] at hd
  exact (hi.2 hP).push (by omega) hx (fun _=>hd)
 ·have:=hi.2 hP
  rwa [show i=f.facts.length by omega,List.take_length] at this
theorem tn (f:aA):(fun (x:Int)=>(f.af.length≤1000000∧f.facts.length≤1000000)→(x=0↔Sf f.af.length f.facts)) (vP f):=fun hP=>have h:=Sk.cN _ (CW f hP); h
theorem FO (f:aA):(hU f).bO (fun _=>True):=by
 refine Sk.bP _ ?_
 unfold hU
 simp only [Sk.oV,Sk.db,reduceCtorEq,ON,kk,kp,nX,FN,aP,du,forall_eq,maxLen]
 refine ⟨⟨Nat.zero_le _,fun _=>⟨fun x hx=>by simp at hx,by simp⟩⟩,fun i hi hm=>⟨fun hc=>⟨?_,fun _ h=>⟨fun h0 _=>⟨?_,⟨?_,fun hP=>?_⟩,?_⟩,fun h0=>⟨?_,fun _ hd _=>⟨?_,⟨?_,fun hP=>?_⟩,?_⟩⟩⟩⟩,fun hc hP=>?_⟩⟩
 all_goals simp only [LN] at hc
 all_goals try omega
 ·exact (aD (by omega) (by omega)).trans (by omega)
 ·have hx:Nz f.af.length (f.facts.getD i default):=by
   unfold Nz
   simp only [LN] at h
   rw [aD (by omega) (by omega)] at h
   omega
  exact (hi.2 hP).push (by omega) hx (fun hn=>absurd (by simpa using h0) hn)
 ·have hn:i≠0:=by simpa using h0
  rw [aD (by omega) (by omega)]; omega
 ·exact (aD (by omega) (by omega)).trans (by omega)
 ·have hn:i≠0:=by simpa using h0
  have hx:Nz f.af.length (f.facts.getD i default):=by
   unfold Nz
   simp only [LN] at h
   rw [aD (by omega) (by omega)] at h
   omega
  rw [aD (by omega) (by omega),show ((i:Int) - 1).toNat=i - 1 by omega,decide_eq_false_iff_not,Uy,Classical.not_not] at hd
  exact (hi.2 hP).push (by omega) hx (fun _=>hd)
 ·have:=hi.2 hP
  rwa [show i=f.facts.length by omega,List.take_length] at this
def k7 f:=kk tok mixed Tryz.func50 [av f.cells] (fun x=>iv x) true (hU f) (vP f) (u0 (FO f)) (fun (x:Int)=>(f.af.length≤1000000∧f.facts.length≤1000000)→(x=0↔Sf f.af.length f.facts)) (tn f)
def ee (r:ai) (f:aA):Sk (Int):=let aC:=((f.af.length:Nat):Int);
 .br ((((decide (aC > 40))||(decide (((f.aE.length:Nat):Int) > 4)))||(decide (((f.bq.length:Nat):Int) > 100)))||(decide (((f.facts.length:Nat):Int) > 200)))
 (.fin 6)
 (.r 3 ((iZ r f.bill).c) fun x1 =>
 .br (x1 != 0)
 (.fin x1)
 (.br (aC == 0)
 (.fin 14)
 (.bind true (fun b2=>(r.aQ.length≤1000000→∀ q,q < f.af.length→oE r f q∧U9 r f q))
 (.loop (default:Sum (Int) (Unit)) (fun i3=>i3≤f.af.length∧(r.aQ.length≤1000000→∀ q,q < i3→oE r f q∧U9 r f q)) (fun i3=>f.af.length - i3) (0:Nat)
 (fun (i3:Nat)=>⟨[(48,iv (i3:Int))],[]⟩) fun i3 =>
 .lt 3 15 i3 f.af.length
 (.r 11 ((mG r f (i3:Int)).c) fun x4 =>
 .br (x4 != 0)
 (.fin (.inl (.inl x4)))
 (.nx 14 48 i3 (i3+1)))
 (.fin (.inl (.inr ()))))
 (fun (_:Unit)=>⟨[],[]⟩) fun _ =>
 .bind true (fun b5=>(∀ q,q < f.aE.length→uV (f.aE.getD q default).sum))
 (.loop (default:Sum (Int) (Unit)) (fun i6=>i6.2≤f.aE.length∧(∀ q,q < i6.2→uV (f.aE.getD q default).sum)) (fun i6=>f.aE.length - i6.2) ((0,0):Int × Nat)
 (fun (i6:Int × Nat)=>⟨[(8,iv i6.1),(62,iv (i6.2:Int))],[]⟩) fun i6=>let bF:=(f.aE.getD i6.2 default);
 .lt 60 0 i6.2 f.aE.length
 (.r 18 (.p (cM (i6.2:Int) f.aE.length)) fun _ =>
 .r 19 ((aP (bF.at_) (bI (i6.1+1)) aC).c) fun x7 =>
 .br (!x7)
 (.fin (.inl (.inl 1)))
 (.r 21 ((aP (bF.sum) 1 1099511627776).c) fun x8 =>
 .br (!x8)
 (.fin (.inl (.inl 3)))
 (.nx 24 62 i6.2 (bF.at_,i6.2+1))))
 (.fin (.inl (.inr ()))))
 (fun (_:Unit)=>⟨[],[]⟩) fun _ =>
 .r 25 ((mH r f).c) fun x9 =>
 .br (x9 != 0)
 (.fin x9)
 (.r 28 ((k7 f).c) fun OP =>
 .fin OP))))
def cO r f:=(ee r f).val
theorem CX (r:ai) (f:aA) (hP:r.aQ.length≤1000000):(ee r f).dj (fun (x:Int)=>x=0→AU r f∧ToF r f):=by
 refine Sk.bM _ ?_
 unfold ee
 simp only [Sk.eO,Sk.db,reduceCtorEq,ON,kk,kp,mH,k7,aP,mG,iZ,du,forall_eq,maxLen]
 refine ⟨fun _ h=>absurd h (by decide),fun hlen hw=>⟨fun h1 h2=>?_,fun hwz=>⟨fun _ h=>absurd h (by decide),fun gN=>⟨⟨⟨by omega,fun _ q hq=>absurd hq (by omega)⟩,fun k hk=>⟨fun hc hs=>⟨fun h1 h2=>?_,fun h1 _=>⟨⟨?_,fun hr q hq=>?_⟩,?_⟩⟩,fun hc hr q hq=>hk.2 hr q (by simp only [LN] at hc; omega)⟩⟩,fun _ hsg=>⟨⟨⟨by omega,fun q hq=>absurd hq (by omega)⟩,fun k hk=>⟨fun hc _=>⟨fun _ h=>absurd h (by decide),fun _=>⟨fun _ h=>absurd h (by decide),fun hs _=>⟨⟨?_,fun q hq=>?_⟩,?_⟩⟩⟩,fun hc q hq=>hk.2 q (by simp only [LN] at hc; omega)⟩⟩,fun _ hal hac=>⟨fun h1 h2=>?_,fun h1 h2=>?_⟩⟩⟩⟩⟩⟩
 all_goals simp only [LN] at hlen
 all_goals (try simp only [LN] at hc)
 ·rw [h2] at h1; exact absurd h1 (by decide)
 ·rw [h2] at h1; exact absurd h1 (by decide)
 ·omega
 ·by_cases e:q=k
  ·subst e
   have:=hs ⟨by omega,by omega,hP,(hw (by simpa using hwz)).1⟩ (by simpa using h1)
   simpa using this
  ·exact hk.2 hr q (by omega)
 ·omega
 ·omega
 ·by_cases e:q=k.2
  ·subst e
   simp only [LN] at hs
   exact ⟨by omega,by omega⟩
  ·exact hk.2 q (by omega)
 ·omega
 ·rw [h2] at h1; exact absurd h1 (by decide)
 ·have W:=hw (by simpa using hwz)
  simp only [LN] at gN
  try intro _
  exact ⟨⟨W.1,⟨by omega,by omega,by omega,by omega,by omega⟩,fun q hq=>(hsg hP q hq).1,hal,hac ⟨by omega,by omega⟩ (by simpa using h1)⟩,W.2,fun q hq=>(hsg hP q hq).2⟩
theorem Br (r:ai) (f:aA):(fun (x:Int)=>(r.aQ.length≤1000000)→(x=0→AU r f∧ToF r f)) (cO r f):=fun hP=>have h:=Sk.cN _ (CX r f hP); h
theorem FP (r:ai) (f:aA) (hr:r.Small):(ee r f).bO (fun _=>True):=by
 refine Sk.bP _ ?_
 unfold ee
 simp only [Sk.oV,Sk.db,reduceCtorEq,ON,kk,kp,mH,k7,aP,mG,iZ,du,forall_eq,maxLen]
 intro hlen
 simp only [LN] at hlen
 refine ⟨hr,fun hw hwz gN=>⟨⟨⟨by omega,fun _ q hq=>absurd hq (by omega)⟩,fun k hk hl=>⟨fun hc=>⟨⟨⟨by omega,of_decide_eq_true hc⟩,by omega,hr⟩,fun hs h1 _=>⟨?_,⟨?_,fun ZS q hq=>?_⟩,?_⟩⟩,fun hc ZS q hq=>hk.2 ZS q (by simp only [LN] at hc; omega)⟩⟩,fun _ hsg=>⟨⟨⟨by omega,fun q hq=>absurd hq (by omega)⟩,fun k hk hl=>⟨fun hc=>⟨⟨by omega,of_decide_eq_true hc⟩,fun _ _ hs _=>⟨?_,⟨?_,fun q hq=>?_⟩,?_⟩⟩,fun hc q hq=>hk.2 q (by simp only [LN] at hc; omega)⟩⟩,fun _ _=>⟨by omega,by omega⟩⟩⟩⟩
 all_goals (try simp only [LN] at hc)
 ·exact aD (by omega) (by omega)
 ·omega
 ·by_cases e:q=k
  ·subst e
   have:=hs ⟨by omega,by omega,ZS,(hw (by simpa using hwz)).1⟩ (by simpa using h1)
   simpa using this
  ·exact hk.2 ZS q (by omega)
 ·omega
 ·exact aD (by omega) (by omega)
 ·omega
 ·by_cases e:q=k.2
  ·subst e
   simp only [LN] at hs
   exact ⟨by omega,by omega⟩
  ·exact hk.2 q (by omega)
 ·omega
def xC r f:=kk tok mixed Tryz.func15 [av r.cells,av f.cells] (fun x=>iv x) true (ee r f) (cO r f) (FP r f) (fun (x:Int)=>(r.aQ.length≤1000000)→(x=0→AU r f∧ToF r f)) (Br r f)
def ep (m:aF) (k_:Key):Sk (Bool × aF):=let aC:=(gw Key.K m.all k_ Body.Z); let bF:=({ kind:=0,part:=0,fu:=(aC.aw).cD,for_:=(-1),cH:=(-1),sum:=0,day:=(aC.aw).day,bn:=(aC.aw).bn,flags:=(aC.sign).flags }:Sign);
 .r 1 (.ak (.t (xu Key.K (vx Body.cells) m.all)) (.o [.cast 15 (XC Key.K (vx Body.cells) m.all k_ Body.Z)])) fun _ =>
 .br (!(sG Key.K m.all k_))
 (.fin (false,m))
 (.r 4 ((xA m.file aC).c) fun x1 =>
 .bind false (fun _=>True)
 (.br (k_.kind == 0)
 (.r 7 (.ak (.o [.pur 42]) (.o [.dU (dw Sign.E [bF])])) fun _ =>
 .fin (.inr ({ bill:=aC.aw,af:=[bF],aE:=[],bq:=[],facts:=[] }:aA)))
 (.fin (.inr x1)))
 (fun (b2:aA)=>⟨[],[(7,.box (b2.cells.map .d))]⟩) fun b2 =>
 .r 8 ((xC m.r b2).c) fun x3 =>
 .br (x3 != 0)
 (.fin (false,m))
 (.r 10 (.ak (.o [.dU (dw Body.E [aC])]) (.ak (.o [.dU (fo Body.E m.used [aC])]) (.ak (.t (Body.E.jz [aC])) (.p (jH m.used.length [aC].length 328))))) fun _ =>
 .fin (true,({ r:=m.r,all:=m.all,file:=b2,used:=m.used++[aC] }:aF))))
def aq m k_:=(ep m k_).val
def Ik (f:aA) (b:Body):aA:=bif b.kind == 1 then { f with af:=f.af++[b.sign] } else bif b.kind == 3 then { f with aE:=f.aE++[b.alter] } else bif b.kind == 2 then { f with bq:=f.bq++[b.act] } else bif b.kind == 4 then { f with facts:=f.facts++[b.fact] } else f
theorem WJ (f:aA) (b:Body):vK f b=Ik f b:=by
 have e:vK f b=bif b.kind == 1 then { f with af:=mA f.af++[b.sign] } else bif b.kind == 3 then { f with aE:=jQ f.aE++[b.alter] } else bif b.kind == 2 then { f with bq:=jR f.bq++[b.act] } else bif b.kind == 4 then { f with facts:=jS f.facts++[b.fact] } else f:=rfl
 rw [e,(ry f.af).2,(pn f.aE).2,(pq f.bq).2,(pv f.facts).2]
 rfl
def XN (b:Body):Sign:={ kind:=0,part:=0,fu:=b.aw.cD,for_:=-1,cH:=-1,sum:=0,day:=b.aw.day,bn:=b.aw.bn,flags:=b.sign.flags }
def px (f:aA) (k:Key) (b:Body):aA:=bif k.kind == 0 then { bill:=b.aw,af:=[XN b],aE:=[],bq:=[],facts:=[] } else Ik f b
def RE (m:aF) (k:Key):Bool × aF:=bif !(sG Key.K m.all k) then (false,m) else bif cO m.r (px m.file k (gw Key.K m.all k Body.Z)) != 0 then (false,m) else (true,{ m with file:=px m.file k (gw Key.K m.all k Body.Z),used:=m.used++[gw Key.K m.all k Body.Z] })
theorem add_eq (m:aF) (k:Key):aq m k=RE m k:=by
 unfold RE px
 cases hk:(k.kind == 0) with
 | true =>
  unfold aq ep
  rw [hk]
  rfl
 | false =>
  have h:=WJ m.file (gw Key.K m.all k Body.Z)
  simp only [cond_false]
  rw [← h]
  unfold aq ep
  rw [hk]
  rfl
theorem Bs {r:ai} {f:aA} (h:cO r f=0):f.af.length≤40∧f.aE.length≤4∧f.bq.length≤100∧f.facts.length≤200:=by
 unfold cO ee at h
 simp only [Sk.da] at h
 revert h
 cases hc:((((decide (((f.af.length:Nat):Int) > 40))||(decide (((f.aE.length:Nat):Int) > 4)))||(decide (((f.bq.length:Nat):Int) > 100)))||(decide (((f.facts.length:Nat):Int) > 200))) with
 | true=>intro h; simp only [cond_true,Sk.cg] at h; omega
 | false =>
  intro _
  simp only [Bool.or_eq_false_iff,decide_eq_false_iff_not] at hc
  omega
theorem MQ {r:ai} {f:aA} (h:cO r f=0):f.Small:=by have:=Bs h; unfold aA.Small; omega
theorem WK {κ α:Type} (K:KE κ) (hK:∀ a b:κ,bZ (K.C a) (K.C b)=true↔a=b) {m:List (κ × α)} {k:κ} {z:α} (h:sG K m k=true):(k,gw K m k z)∈m:=by
 unfold sG at h
 unfold gw
 cases hf:cV K m k with
 | none=>rw [hf] at h; cases h
 | some v=>exact ux K hK m k v hf
theorem O3 (b:Body):(bC b).kind=b.kind:=by
 have e:bC b=bif b.kind == 4 then ({ kind:=b.kind,index:=0,at_:=b.fact.at_,fact:=b.fact.kind }:Key) else ({ kind:=b.kind,index:=b.index,at_:=0,fact:=0 }:Key):=rfl
 rw [e]
 cases (b.kind == 4) <;> rfl
abbrev O4 (m:aF) (k:Key) (x:Bool × aF):Prop:=x.2.r=m.r∧x.2.all=m.all∧(m.file.af.length≤40→x.2.file.af.length≤40)∧(m.file.Small→x.2.file.Small)∧x.2.used.length≤m.used.length+1∧(x.1=false→x.2=m)∧(pk m.all→x.1=true→k.kind=1→x.2.file.af.length=m.file.af.length+1)
theorem MR (m:aF) (k:Key):O4 m k (aq m k):=by
 rw [add_eq]
 unfold RE
 cases h1:sG Key.K m.all k with
 | false=>simp only [Bool.not_false,cond_true]; exact ⟨rfl,rfl,id,id,Nat.le_succ _,fun _=>rfl,fun _ h=>by cases h⟩
 | true =>
  simp only [Bool.not_true,cond_false]
  cases h2:(cO m.r (px m.file k (gw Key.K m.all k Body.Z)) != 0) with
  | true=>simp only [cond_true]; exact ⟨rfl,rfl,id,id,Nat.le_succ _,fun _=>rfl,fun _ h=>by cases h⟩
  | false =>
   have h3:cO m.r (px m.file k (gw Key.K m.all k Body.Z))=0:=by simpa using h2
   simp only [cond_false]
   refine ⟨rfl,rfl,fun _=>(Bs h3).1,fun _=>MQ h3,by simp,fun h=>(by cases h),fun hm _ hk=>?_⟩
   have h4:=hm _ (WK Key.K (fun _ _=>xz) (z:=Body.Z) h1)
   have h5:(gw Key.K m.all k Body.Z).kind=1:=by rw [← O3,h4]; exact hk
   show (px m.file k (gw Key.K m.all k Body.Z)).af.length=_
   unfold px Ik
   simp [hk,h5]
def tu (r:ai) (all:List (Key × Body)) (n:Nat) (m:aF):Prop:=m.r=r∧m.all=all∧m.file.af.length≤40∧m.file.Small∧m.used.length≤n
theorem tu.step {r:ai} {all:List (Key × Body)} {n:Nat} {m:aF} {k:Key} {x:Bool × aF} (h:tu r all n m) (hx:O4 m k x):tu r all (n+1) x.2 :=
 ⟨hx.1.trans h.1,hx.2.1.trans h.2.1,hx.2.2.1 h.2.2.1,hx.2.2.2.1 h.2.2.2.1,by have h1:=hx.2.2.2.2.1; have h2:=h.2.2.2.2; omega⟩
theorem tu.le {r:ai} {all:List (Key × Body)} {n n':Nat} {m:aF} (h:tu r all n m) (hn:n≤n'):tu r all n' m:=⟨h.1,h.2.1,h.2.2.1,h.2.2.2.1,Nat.le_trans h.2.2.2.2 hn⟩
theorem tu.pre {r:ai} {all:List (Key × Body)} {n:Nat} {m:aF} (h:tu r all n m) (hn:n≤1000) (hr:r.Small):m.used.length≤1000000∧m.file.Small∧m.r.Small:=⟨by have:=h.2.2.2.2; omega,h.2.2.2.1,h.1 ▸ hr⟩
theorem uX (m:aF) (k_:Key):(fun (x:Bool × aF)=>O4 m k_ x) (aq m k_):=MR m k_
theorem xf (m:aF) (k_:Key) (hu:m.used.length≤1000000) (hs:m.file.Small) (vQ:m.r.Small):(ep m k_).bO (fun _=>True):=by
 simp only [aA.Small,ai.Small] at hs
 simp only [aA.Small,ai.Small] at vQ
 unfold ep
 try simp only [xC,xA,aA.Small,ai.Small]
 exact sH
theorem vR (m:aF) (k_:Key) (hu:m.used.length≤1000000) (hs:m.file.Small) (vQ:m.r.Small):SK Tryz.prog 88 [.ptr 888000 0,av k_.cells] (aF.bx 888000 888000 m) ((fun (x:Bool × aF)=>(bv x.1:AV)) (aq m k_)) ((fun (x:Bool × aF)=>aF.bx 888000 888005 x.2) (aq m k_)) [(0,888000)] :=
 SK.sk tok mixed (fun x=>bv x.1) (fun x=>aF.bx 888000 888005 x.2) [(0,888000)] Tryz.func88 rfl (by kernel_rfl) 3000 (ep m k_) (by kernel_rfl) (xf m k_ hu hs vQ)
def eu (m:aF) (k_:Key):GK (Bool × aF):=⟨Tryz.prog,88,[.ptr 888000 0,av k_.cells],(aF.bx 888000 888000 m),[(0,888000)],fun x=>bv x.1,fun x=>aF.bx 888000 888005 x.2,aq m k_,(m.used.length≤1000000)∧(m.file.Small)∧(m.r.Small),fun h=>vR m k_ h.1 h.2.1 h.2.2,fun (x:Bool × aF)=>O4 m k_ x,uX m k_⟩
def jb (r:ai) (l:List ah) (bill:Int) (day:Int):Sk (aF):=let aC:=({ kind:=0,n:=0,unit:=0 }:fc); let bF:=({ cD:=0,cL:=0,cE:=0,sum:=0,bh:=0,bp:=aC,day:=0,bn:=0,tE:=0,need:=0,iR:=0,flags:=0,parts:=0 }:dV);
 .r 1 ((sW l bill day).c) fun x1 =>
 .up ⟨[(9,.ptr 888000 0)],aF.bx 888000 888000 ({ r:=r,all:=x1,file:=({ bill:=bF,af:=[],aE:=[],bq:=[],facts:=[] }:aA),used:=[] }:aF)⟩ <|
 .r 2 ((eu ({ r:=r,all:=x1,file:=({ bill:=bF,af:=[],aE:=[],bq:=[],facts:=[] }:aA),used:=[] }:aF) ({ kind:=0,index:=0,at_:=0,fact:=0 }:Key)).c) fun x2 =>
 .br (!x2.1)
 (.fin x2.2)
 (.bind true (fun b3=>tu r x1 (41) b3)
 (.loop (default:Sum (aF) (aF)) (fun i4=>tu r x1 (i4.2.file.af.length+1) i4.2) (fun i4=>40 - i4.2.file.af.length) ((1,x2.2):Int × aF)
 (fun (i4:Int × aF)=>⟨[(10,iv i4.1)],aF.bx 888000 888000 i4.2⟩) fun i4 =>
 .r 5 ((eu i4.2 ({ kind:=1,index:=i4.1,at_:=0,fact:=0 }:Key)).c) fun x5 =>
 .br x5.1
 (.fin (.inr (bI (i4.1+1),x5.2)))
 (.fin (.inl (.inr x5.2))))
 (fun (b3:aF)=>⟨[],aF.bx 888000 888000 b3⟩) fun b3 =>
 .bind true (fun b6=>tu r x1 (45) b6)
 (.loop (default:Sum (aF) (aF)) (fun i7=>i7.1≤4∧tu r x1 (41+i7.1) i7.2) (fun i7=>4 - i7.1) ((0,b3):Nat × aF)
 (fun (i7:Nat × aF)=>⟨[(33,iv (i7.1:Int))],aF.bx 888000 888000 i7.2⟩) fun i7 =>
 .br (decide ((i7.1:Int) < 4))
 (.r 10 ((eu i7.2 ({ kind:=3,index:=(i7.1:Int),at_:=0,fact:=0 }:Key)).c) fun x8 =>
 .nx 11 33 i7.1 (i7.1+1,x8.2))
 (.fin (.inl (.inr i7.2))))
 (fun (b6:aF)=>⟨[],aF.bx 888000 888000 b6⟩) fun b6 =>
 .bind true (fun b9=>tu r x1 (145) b9)
 (.loop (default:Sum (aF) (aF)) (fun i10=>i10.1≤100∧tu r x1 (45+i10.1) i10.2) (fun i10=>100 - i10.1) ((0,b6):Nat × aF)
 (fun (i10:Nat × aF)=>⟨[(41,iv (i10.1:Int))],aF.bx 888000 888000 i10.2⟩) fun i10 =>
 .br (decide ((i10.1:Int) < 100))
 (.r 15 ((eu i10.2 ({ kind:=2,index:=(i10.1:Int),at_:=0,fact:=0 }:Key)).c) fun JK =>
 .nx 16 41 i10.1 (i10.1+1,JK.2))
 (.fin (.inl (.inr i10.2))))
 (fun (b9:aF)=>⟨[],aF.bx 888000 888000 b9⟩) fun b9 =>
 .bind true (fun b12=>tu r x1 (345) b12)
 (.loop (default:Sum (aF) (aF)) (fun i13=>i13.1≤b9.file.af.length∧tu r x1 (145+5 * i13.1) i13.2) (fun i13=>b9.file.af.length - i13.1) ((0,b9):Nat × aF)
 (fun (i13:Nat × aF)=>⟨[(55,iv (i13.1:Int))],aF.bx 888000 888000 i13.2⟩) fun i13 =>
 .br (decide ((i13.1:Int) < ((b9.file.af.length:Nat):Int)))
 (.bind true (fun Qc=>tu r x1 (150+5 * i13.1) Qc)
 (.bind true (fun Zr=>tu r x1 (150+5 * i13.1) Zr.2)
 (.loop (default:Sum (Sum (Sum (Sum (aF) (aF)) (Nat × aF)) (aF)) (Int × aF)) (fun i16=>i16.1≤5∧tu r x1 (145+5 * i13.1+i16.1) i16.2) (fun i16=>5 - i16.1) ((0,i13.2):Nat × aF)
 (fun (i16:Nat × aF)=>⟨[(58,iv (i16.1:Int))],aF.bx 888000 888000 i16.2⟩) fun i16=>let dm:=(i16.1:Int);
 .br (decide (dm < 5))
 (.r 23 ((eu i16.2 ({ kind:=4,index:=0,at_:=(i13.1:Int),fact:=dm }:Key)).c) fun O0 =>
 .nx 24 58 i16.1 (i16.1+1,O0.2))
 (.fin (.inl (.inr (dm,i16.2)))))
 (fun (Zr:Int × aF)=>⟨[(58,iv Zr.1)],aF.bx 888000 888000 Zr.2⟩) fun Zr =>
 .fin (.inr Zr.2))
 (fun (Qc:aF)=>⟨[],aF.bx 888000 888000 Qc⟩) fun Qc =>
 .nx 25 55 i13.1 (i13.1+1,Qc))
 (.fin (.inl (.inr i13.2))))
 (fun (b12:aF)=>⟨[],aF.bx 888000 888000 b12⟩) fun b12 =>
 .fin b12)
def dJ r l bill day:=(jb r l bill day).val
theorem CY (r:ai) (l:List ah) (bill:Int) (day:Int) (hi:∀ a,a∈l→a.report.dT) (fL:r.Small):(jb r l bill day).bO (fun _=>True):=by
 unfold jb
 refine ⟨hi,fun A _ hA=>?_⟩
 have hA:pk A:=hA
 have st:∀ {i n:Nat},decide ((i:Int) < (n:Int))=true→i < n:=fun h=>by have h:=of_decide_eq_true h; omega
 have sf:∀ {i n:Nat},decide ((i:Int) < (n:Int))=false→n≤i:=fun h=>by have h:=of_decide_eq_false h; omega
 have w:∀ {i:Nat},i≤1000→bI ((i:Int)+1)=((i+1:Nat):Int):=fun h=>by rw [aD (by omega) (by omega)]; omega
 refine ⟨⟨Nat.zero_le _,⟨Nat.zero_le _,Nat.zero_le _,Nat.zero_le _,Nat.zero_le _⟩,fL⟩,fun x2 _ h2=>⟨fun _=>trivial,fun hc=>⟨⟨?_,fun i hi=>⟨hi.pre (by have:=hi.2.2.1; omega) fL,fun x5 _ h5=>⟨fun ht=>?_,fun ht=>?_⟩⟩⟩,fun b3 _ h3=>?_⟩⟩⟩
 ·have h2:O4 _ _ x2:=h2
  exact ⟨h2.1,h2.2.1,h2.2.2.1 (Nat.zero_le _),h2.2.2.2.1 ⟨Nat.zero_le _,Nat.zero_le _,Nat.zero_le _,Nat.zero_le _⟩,by have h:x2.2.used.length≤0+1:=h2.2.2.2.2.1; show x2.2.used.length≤x2.2.file.af.length+1; omega⟩
 ·have h5:O4 _ _ x5:=h5
  have hl:=h5.2.2.2.2.2.2 (hi.2.1 ▸ hA) ht rfl
  have hs:=h5.2.2.1 hi.2.2.1
  exact ⟨(hi.step h5).le (by show i.2.file.af.length+1+1≤x5.2.file.af.length+1; omega),by show 40 - x5.2.file.af.length < 40 - i.2.file.af.length; omega⟩
 ·have h5:O4 _ _ x5:=h5
  have e:=h5.2.2.2.2.2.1 ht
  show tu r A 41 x5.2
  rw [e]
  exact hi.le (by have:=hi.2.2.1; omega)
 refine ⟨⟨⟨Nat.zero_le _,h3⟩,fun i hi=>⟨fun hc=>⟨hi.2.pre (by omega) fL,fun x8 _ h8=>⟨trivial,fun _ _ _=>⟨w (by omega),⟨have:=st (n:=4) hc; by show i.1+1≤4; omega,(hi.2.step h8).le (Nat.le_of_eq (by omega))⟩,have:=st (n:=4) hc; by show 4 - (i.1+1) < 4 - i.1; omega⟩⟩⟩,fun _=>hi.2.le (by omega)⟩⟩,fun b6 _ h6=>?_⟩
 refine ⟨⟨⟨Nat.zero_le _,h6⟩,fun i hi=>⟨fun hc=>⟨hi.2.pre (by omega) fL,fun x8 _ h8=>⟨trivial,fun _ _ _=>⟨w (by omega),⟨have:=st (n:=100) hc; by show i.1+1≤100; omega,(hi.2.step h8).le (Nat.le_of_eq (by omega))⟩,have:=st (n:=100) hc; by show 100 - (i.1+1) < 100 - i.1; omega⟩⟩⟩,fun _=>hi.2.le (by omega)⟩⟩,fun b9 _ h9=>?_⟩
 have hn:=h9.2.2.1
 refine ⟨⟨⟨Nat.zero_le _,h9⟩,fun i hi=>⟨fun hc=>?_,fun _=>hi.2.le (by omega)⟩⟩,fun b12 _ h12=>trivial⟩
 refine ⟨⟨⟨⟨Nat.zero_le _,hi.2⟩,fun j hj=>⟨fun hc=>⟨hj.2.pre (by omega) fL,fun x8 _ h8=>⟨trivial,fun _ _ _=>⟨w (by omega),⟨have:=st (n:=5) hc; by show j.1+1≤5; omega,(hj.2.step h8).le (Nat.le_of_eq (by omega))⟩,have:=st (n:=5) hc; by show 5 - (j.1+1) < 5 - j.1; omega⟩⟩⟩,fun _=>hj.2.le (by omega)⟩⟩,fun Zr _ h15=>h15⟩,fun Qc _ h14=>⟨trivial,fun _ _ _=>⟨w (by omega),⟨have:=st hc; by show i.1+1≤b9.file.af.length; omega,h14.le (by omega)⟩,have:=st hc; by show b9.file.af.length - (i.1+1) < b9.file.af.length - i.1; omega⟩⟩⟩
theorem Bt (r:ai) (l:List ah) (bill:Int) (day:Int) (hi:∀ a,a∈l→a.report.dT) (fL:r.Small):kE Tryz.prog 51 [av r.cells,lv ah.cells l,iv bill,iv day] [] ((fun (_:aF)=>(.ptr 777700 0:AV)) (dJ r l bill day)) ((fun (x:aF)=>aF.bx 777700 777700 x) (dJ r l bill day)) :=
 kE.sk tok mixed (fun x=>.ptr 777700 0) (fun x=>aF.bx 777700 777700 x) Tryz.func51 rfl (by kernel_rfl) 3000 (jb r l bill day) (by kernel_rfl) (CY r l bill day hi fL)
def lC (r:ai) (l:List ah) (bill:Int) (day:Int):gR (aF):=⟨Tryz.prog,51,[av r.cells,lv ah.cells l,iv bill,iv day],fun x=>.ptr 777700 0,fun x=>aF.bx 777700 777700 x,dJ r l bill day,(∀ a,a∈l→a.report.dT)∧(r.Small),fun h=>Bt r l bill day h.1 h.2,fun _=>True,trivial⟩
def mI (r:ai) (l:List ah) (bill:Int) (day:Int):Sk (aA × Bool) :=
 .r 1 ((lC r l bill day).c) fun x1 =>
 .fin (x1.file,decide (((x1.used.length:Nat):Int) > 0))
def MS r l bill day:=(mI r l bill day).val
theorem FQ (r:ai) (l:List ah) (bill:Int) (day:Int) (hi:∀ a,a∈l→a.report.dT) (fL:r.Small):(mI r l bill day).bO (fun _=>True):=by
 simp only [aA.Small,ai.Small] at fL
 unfold mI
 try simp only [lC,aA.Small,ai.Small]
 exact sH
def Hc r l bill day:=kk tok mixed Tryz.func17 [av r.cells,lv ah.cells l,iv bill,iv day] (fun x=>.il [av x.1.cells,bv x.2]) false (mI r l bill day) (MS r l bill day) (u2 (FQ r l bill day))
def nY (x_:ah) (day:Int):Sk (Bool):=let aC:=(decide (x_.day≥x_.report.day));
 .r 1 (.dep ((iV x_.aX 0 2).c) fun x1=>.wh ((x1&&aC)&&(decide (x_.day≤day))) true ((jN x_.report).c)) fun p3 =>
 .fin (((p3.1&&aC)&&(decide (x_.day≤day)))&&p3.2)
def gK x_ day:=(nY x_ day).val
theorem RF (x:ah) (day:Int):gK x day=(((nB x.aX 0 2&&(decide (x.day≥x.report.day)))&&(decide (x.day≤day)))&&gq x.report):=rfl
theorem Hd (x_:ah) (day:Int):(nY x_ day).bO (fun _=>True):=by
 unfold nY
 try simp only [jN,iV,Ib]
 exact AQ
def z7 x_ day:=kk tok mixed Tryz.func36 [av x_.cells,iv day] (fun x=>bv x) true (nY x_ day) (gK x_ day) (u0 (Hd x_ day))
theorem lM (x:ah) (day:Int):gK x day=wA day x:=by
 have h1:nB x.aX 0 2=(decide (0≤x.aX)&&decide (x.aX < 3)):=by
  rw [Bool.eq_iff_iff,iW,Bool.and_eq_true,decide_eq_true_eq,decide_eq_true_eq]
  omega
 rw [RF,h1,nC]
 unfold wA
 cases decide (0≤x.aX)&&decide (x.aX < 3) <;> cases decide (x.day≤day) <;> cases decide (x.day≥x.report.day) <;> rfl
abbrev z8 (l:List ah) (day:Int) (i p:Nat):Prop:=(l.getD p default).report=(l.getD i default).report∧wA day (l.getD p default)=true
def WL (l:List ah) (day:Int) (q:Nat):Bool:=open Classical in decide (wA day (l.getD q default)=true∧(∀ p,p < q→¬ z8 l day q p)∧∃ p,p < l.length∧z8 l day q p∧(l.getD p default).aX≠(l.getD q default).aX)
theorem wN {l:List ah} {day:Int} {q:Nat}:WL l day q=true↔wA day (l.getD q default)=true∧(∀ p,p < q→¬ z8 l day q p)∧∃ p,p < l.length∧z8 l day q p∧(l.getD p default).aX≠(l.getD q default).aX:=by
 unfold WL
 exact @decide_eq_true_iff _ (_)
def He (l:List ah) (day:Int) (i:Nat):List ae:=((List.range i).filter (WL l day)).map fun q=>(l.getD q default).report
theorem WM (l:List ah) (day:Int) (i:Nat):(He l day i).length≤i:=by
 unfold He
 rw [List.length_map]
 have:=List.length_filter_le (WL l day) (List.range i)
 rw [List.length_range] at this
 exact this
theorem Qd {l:List ah} {day:Int} {i:Nat} (h:WL l day i=true):He l day i++[(l.getD i default).report]=He l day (i+1):=by
 unfold He
 rw [List.range_succ,List.filter_append,List.map_append,List.filter_cons,if_pos h]
 rfl
theorem J4 {l:List ah} {day:Int} {i:Nat} (h:¬ WL l day i=true):He l day i=He l day (i+1):=by
 unfold He
 rw [List.range_succ,List.filter_append,List.filter_cons,if_neg h]
 simp
def Il (l:List ah) (day:Int) (i:Nat) (f o:Bool) (k:Nat):Prop:=k≤l.length∧(f=true↔∀ p,p < k→p < i→¬ z8 l day i p)∧(o=true↔∃ p,p < k∧z8 l day i p∧(l.getD p default).aX≠(l.getD i default).aX)
theorem Il.start (l:List ah) (day:Int) (i:Nat):Il l day i true false 0:=⟨Nat.zero_le _,⟨fun _ p hp=>absurd hp (Nat.not_lt_zero _),fun _=>rfl⟩,⟨fun h=>(by cases h),fun ⟨p,hp,_⟩=>absurd hp (Nat.not_lt_zero _)⟩⟩
theorem Il.skip {l:List ah} {day:Int} {i k:Nat} {f o:Bool} (h:Il l day i f o k) (hk:k < l.length) (hs:¬ z8 l day i k):Il l day i f o (k+1):=by
 obtain ⟨h1,h2,h3⟩:=h
 refine ⟨hk,h2.trans ⟨fun g p hp=>?_,fun g p hp=>g p (by omega)⟩,h3.trans ⟨fun ⟨p,hp,g⟩=>⟨p,by omega,g⟩,fun ⟨p,hp,g⟩=>?_⟩⟩
 ·by_cases e:p=k
  ·subst e
   exact fun _=>hs
  ·exact g p (by omega)
 ·by_cases e:p=k
  ·subst e
   exact absurd g.1 hs
  ·exact ⟨p,by omega,g⟩
theorem Il.step {l:List ah} {day:Int} {i k:Nat} {f o f' o':Bool} (h:Il l day i f o k) (hk:k < l.length) (hs:z8 l day i k) (hf:f'=bif decide ((k:Int) < (i:Int)) then false else f) (ho:o'=bif ((l.getD k default).aX != (l.getD i default).aX) then true else o):Il l day i f' o' (k+1):=by
 obtain ⟨h1,h2,h3⟩:=h
 refine ⟨hk,?_,?_⟩
 ·rw [hf]
  cases hd:decide ((k:Int) < (i:Int)) with
  | true =>
   have hd:=of_decide_eq_true hd
   exact ⟨fun h=>(by cases h),fun g=>absurd hs (g k (by omega) (by omega))⟩
  | false =>
   have hd:=of_decide_eq_false hd
   refine h2.trans ⟨fun g p hp hi=>?_,fun g p hp=>g p (by omega)⟩
   exact g p (by omega) hi
 ·rw [ho]
  cases hd:((l.getD k default).aX != (l.getD i default).aX) with
  | true=>exact ⟨fun _=>⟨k,by omega,hs,by simpa using hd⟩,fun _=>rfl⟩
  | false =>
   refine h3.trans ⟨fun ⟨p,hp,g⟩=>⟨p,by omega,g⟩,fun ⟨p,hp,g⟩=>?_⟩
   by_cases e:p=k
   ·subst e
    exact absurd (by simpa using hd) g.2
   ·exact ⟨p,by omega,g⟩
theorem Il.done {l:List ah} {day:Int} {i:Nat} {f o:Bool} (h:Il l day i f o l.length) (hi:i < l.length) (hc:wA day (l.getD i default)=true):(f&&o)=WL l day i:=by
 rw [Bool.eq_iff_iff,wN,Bool.and_eq_true,h.2.1,h.2.2]
 exact ⟨fun ⟨a,b⟩=>⟨hc,fun p hp=>a p (by omega) hp,b⟩,fun ⟨_,a,b⟩=>⟨fun p _ hp=>a p hp,b⟩⟩
theorem Uz {l:List ah} {day:Int} {i:Nat} (hc:wA day (l.getD i default)=false):¬ WL l day i=true:=fun h=>by
 rw [(wN.1 h).1] at hc
 cases hc
theorem eR {α:Type} [Inhabited α] {l:List α} {i:Nat} (h:i < l.length):l.getD i default∈l:=by
 rw [show l.getD i default=l[i] by simp [List.getD,h]]
 exact List.getElem_mem h
theorem FR {α:Type} [Inhabited α] {l:List α} {a:α} (h:a∈l):∃ i,i < l.length∧l.getD i default=a:=by
 obtain ⟨i,hi,e⟩:=List.getElem_of_mem h
 exact ⟨i,hi,by rw [← e]; simp [List.getD,hi]⟩
theorem UA {P:Nat→Prop}:∀ n,P n→∃ m,m≤n∧P m∧∀ k,k < m→¬ P k:=by
 intro n
 induction n using Nat.strongRecOn with
 | ind n ih =>
  intro h
  by_cases hq:∃ k,k < n∧P k
  ·obtain ⟨k,hk,hp⟩:=hq
   obtain ⟨m,a,b,c⟩:=ih k hk hp
   exact ⟨m,by omega,b,c⟩
  ·exact ⟨n,Nat.le_refl _,h,fun k hk hp=>hq ⟨k,hk,hp⟩⟩
theorem UB (l:List ah) (day:Int):(He l day l.length).Perm (aY l day):=by
 refine (List.perm_ext_iff_of_nodup ?_ (kY _ _)).2 fun x=>?_
 ·unfold He
  rw [List.nodup_iff_pairwise_ne,List.pairwise_map]
  refine List.Pairwise.imp_of_mem ?_ (List.pairwise_lt_range.filter (WL l day))
  intro a b ha hb IZ e
  have h1:=wN.1 (List.mem_filter.1 ha).2
  have h2:=wN.1 (List.mem_filter.1 hb).2
  exact h2.2.1 a IZ ⟨e,h1.1⟩
 ·rw [MN]
  unfold He
  rw [List.mem_map]
  constructor
  ·rintro ⟨q,hq,rfl⟩
   obtain ⟨hq1,XG⟩:=List.mem_filter.1 hq
   have hq1:=List.mem_range.1 hq1
   obtain ⟨g1,g2,p,g3,g4,g5⟩:=wN.1 XG
   exact ⟨_,_,eR g3,eR hq1,g4.2,g1,g4.1,rfl,g5⟩
  ·rintro ⟨a,b,ha,hb,ca,cb,ea,eb,gN⟩
   obtain ⟨i,hi,rfl⟩:=FR ha
   obtain ⟨j,hj,rfl⟩:=FR hb
   obtain ⟨m,h1,⟨h2,h3⟩,h4⟩:=UA (P:=fun q=>wA day (l.getD q default)=true∧(l.getD q default).report=x) i ⟨ca,ea⟩
   refine ⟨m,List.mem_filter.2 ⟨List.mem_range.2 (by omega),wN.2 ⟨h2,fun p hp hs=>h4 p hp ⟨hs.2,by rw [hs.1,h3]⟩,?_⟩⟩,h3⟩
   by_cases hr:(l.getD i default).aX=(l.getD m default).aX
   ·exact ⟨j,hj,⟨by rw [eb,h3],cb⟩,by rw [← hr]; exact fun e=>gN e.symm⟩
   ·exact ⟨i,hi,⟨by rw [ea,h3],ca⟩,hr⟩
theorem DF {α:Type} {c:Bool} {x y b:Bool} (h:(bif c then (.inr x:α ⊕ Bool) else .inr y)=.inr b):b=bif c then x else y:=by
 cases c <;> exact (Sum.inr.inj h).symm
theorem tv {l:List ah} {day:Int} {i k:Nat} {x7:Bool} (e7:x7=gK (l.getD k default) day):(((!(bZ (ae.cells ((l.getD k default).report)) (ae.cells ((l.getD i default).report))))||(!x7))=false↔z8 l day i k):=by
 rw [e7,lM,Bool.or_eq_false_iff,Bool.not_eq_false',Bool.not_eq_false']
 exact and_congr_left' Fx
def k9 (l:List ah) (day:Int):Sk ((List ae)) :=
 .bind true (fun b1=>b1=He l day l.length)
 (.loop (default:Sum ((List ae)) ((List ae))) (fun i2=>i2.2≤l.length∧i2.1=He l day i2.2) (fun i2=>l.length - i2.2) (([],0):(List ae) × Nat)
 (fun (i2:(List ae) × Nat)=>⟨[(5,ow 100006 i2.1),(6,iv (i2.2:Int))],[(100006,cm 37 44 ae.cells i2.1)]⟩) fun i2=>let dm:=(cM (i2.2:Int) l.length); let bF:=(l.getD i2.2 default);
 .lt 0 0 i2.2 l.length
 (.bind true (fun b3=>b3=He l day (i2.2+1))
 (.r 5 (.ak (.p dm) ((z7 bF day).c)) fun x4 =>
 .br (!x4)
 (.fin (.inr i2.1))
 (.bind true (fun b5=>Il l day i2.2 b5.1 b5.2.1 l.length)
 (.loop (default:Sum (Sum (Sum (Sum ((List ae)) ((List ae))) ((List ae) × Nat)) ((List ae))) (Bool × Bool × Int)) (fun i6=>Il l day i2.2 i6.1 i6.2.1 i6.2.2) (fun i6=>l.length - i6.2.2) ((true,false,0):Bool × Bool × Nat)
 (fun (i6:Bool × Bool × Nat)=>⟨[(7,bv i6.1),(8,bv i6.2.1),(9,iv (i6.2.2:Int))],[]⟩) fun i6=>let lU:=(l.getD i6.2.2 default); let eX:=(i6.2.2:Int); let l8:=(cM eX l.length); let aC:=(!(bZ (ae.cells (lU.report)) (ae.cells (bF.report))));
 .lt 0 0 i6.2.2 l.length
 (.r 11 (.ak (.p l8) (.ak (.p dm) (.ak (.wh aC false (.p l8)) (.wh aC false ((z7 lU day).c))))) fun x7 =>
 .br (aC||(!x7))
 (.nx 10 9 i6.2.2 (i6.1,i6.2.1,i6.2.2+1))
 (.bind false (fun _=>True)
 (.br (decide (eX < (i2.2:Int)))
 (.fin (.inr false))
 (.fin (.inr i6.1)))
 (fun (b8:Bool)=>⟨[(7,bv b8)],[]⟩) fun b8 =>
 .r 14 (.ak (.p l8) (.p dm)) fun _ =>
 .br ((lU.aX) != (bF.aX))
 (.nx 10 9 i6.2.2 (b8,true,i6.2.2+1))
 (.nx 10 9 i6.2.2 (b8,i6.2.1,i6.2.2+1))))
 (.fin (.inl (.inr (i6.1,i6.2.1,eX)))))
 (fun (b5:Bool × Bool × Int)=>⟨[(7,bv b5.1),(8,bv b5.2.1),(9,iv b5.2.2)],[]⟩) fun b5 =>
 .br (b5.1&&b5.2.1)
 (.r 17 (.ak (.p dm) (.ak (.o [.dU (dw ae.E [bF.report])]) (.ak (.o [.dU (fo ae.E i2.1 [bF.report])]) (.ak (.t (ae.E.jz [bF.report])) (.p (jH i2.1.length [bF.report].length 352)))))) fun _ =>
 .fin (.inr (i2.1++[bF.report])))
 (.fin (.inr i2.1))))
 (fun (b3:(List ae))=>⟨[(5,ow 100008 b3)],[(100008,cm 37 44 ae.cells b3)]⟩) fun b3 =>
 .nx 4 6 i2.2 (b3,i2.2+1))
 (.fin (.inl (.inr i2.1))))
 (fun (b1:(List ae))=>⟨[(5,ow 100004 b1)],[(100004,cm 37 44 ae.cells b1)]⟩) fun b1 =>
 .fin b1
def O5 l day:=(k9 l day).val
theorem FT (l:List ah) (day:Int):(k9 l day).dj (fun (x:(List ae))=>x.Perm (aY l day)):=by
 unfold k9
 have st:∀ {i n:Nat},decide ((i:Int) < (n:Int))=true→i < n:=fun h=>by have h:=of_decide_eq_true h; omega
 refine ⟨⟨⟨Nat.zero_le _,rfl⟩,fun i2 h=>⟨fun hc=>⟨fun x4 e4 _=>⟨fun h4=>?_,fun h4=>⟨⟨Il.start l day i2.2,fun i6 g=>⟨fun hd=>fun x7 e7 _=>⟨fun hn=>fun _ _ _=>⟨g.skip (st hd) (fun hs=>?_),?_⟩,fun hn=>⟨⟨fun _=>trivial,fun _=>trivial⟩,fun b8 e8 _=>fun _ _ _=>⟨fun hr=>fun _ _ _=>⟨g.step (st hd) ((tv e7).1 hn) (DF e8) (by rw [hr]; rfl),?_⟩,fun hr=>fun _ _ _=>⟨g.step (st hd) ((tv e7).1 hn) (DF e8) (by rw [hr]; rfl),?_⟩⟩⟩⟩,fun hd=>?_⟩⟩,fun b5 _ h5=>⟨fun hb=>fun _ _ _=>?_,fun hb=>?_⟩⟩⟩,fun b3 _ h3=>fun _ _ _=>⟨⟨st hc,h3⟩,by have:=st hc; show l.length - (i2.2+1) < l.length - i2.2; omega⟩⟩,fun hc=>?_⟩⟩,fun b1 _ h1=>?_⟩
 ·have hx:wA day (l.getD i2.2 default)=false:=by
   rw [← lM,← show x4=gK (l.getD i2.2 default) day from e4]
   simpa using h4
  show i2.1=He l day (i2.2+1)
  rw [← J4 (Uz hx)]
  exact h.2
 ·rw [(tv e7).2 hs] at hn
  cases hn
 ·have:=st hd; show l.length - (i6.2.2+1) < l.length - i6.2.2; omega
 ·have:=st hd; show l.length - (i6.2.2+1) < l.length - i6.2.2; omega
 ·have:=st hd; show l.length - (i6.2.2+1) < l.length - i6.2.2; omega
 ·have hd:=of_decide_eq_false hd
  have e:i6.2.2=l.length:=Nat.le_antisymm g.1 (by omega)
  have g:Il l day i2.2 i6.1 i6.2.1 i6.2.2:=g
  rw [e] at g
  exact g
 ·have hx:wA day (l.getD i2.2 default)=true:=by
   rw [← lM,← show x4=gK (l.getD i2.2 default) day from e4]
   simpa using h4
  have h5:Il l day i2.2 b5.1 b5.2.1 l.length:=h5
  rw [h5.done (st hc) hx] at hb
  show i2.1++[(l.getD i2.2 default).report]=He l day (i2.2+1)
  rw [← Qd hb,h.2]
 ·have hx:wA day (l.getD i2.2 default)=true:=by
   rw [← lM,← show x4=gK (l.getD i2.2 default) day from e4]
   simpa using h4
  have h5:Il l day i2.2 b5.1 b5.2.1 l.length:=h5
  rw [h5.done (st hc) hx] at hb
  show i2.1=He l day (i2.2+1)
  rw [← J4 (by rw [hb]; decide)]
  exact h.2
 ·have hc:=of_decide_eq_false hc
  have e:i2.2=l.length:=Nat.le_antisymm h.1 (by omega)
  have h2:=h.2
  rw [e] at h2
  exact h2
 ·have h1:b1=He l day l.length:=h1
  show b1.Perm (aY l day)
  rw [h1]
  exact UB l day
theorem Hf (l:List ah) (day:Int) (hl:l.length≤1200):(k9 l day).bO (fun _=>True):=by
 unfold k9
 have st:∀ {i n:Nat},decide ((i:Int) < (n:Int))=true→i < n:=fun h=>by have h:=of_decide_eq_true h; omega
 have sz:∀ {n m:Nat},n+m≤2000→jH n m 352:=fun h=>by simp only [jH,maxLen]; omega
 have ix:∀ {i n:Nat},i < n→cM (i:Int) n:=fun h=>⟨by omega,by omega⟩
 have w:∀ {i n:Nat},i < n→n≤1000000→bI ((i:Int)+1)=((i+1:Nat):Int):=fun h h'=>by rw [aD (by omega) (by omega)]; omega
 refine ⟨⟨⟨Nat.zero_le _,rfl⟩,fun i2 h _=>⟨fun hc=>⟨⟨⟨ix (st hc),trivial⟩,fun x4 e4 _=>⟨fun h4=>?_,fun h4=>⟨⟨Il.start l day i2.2,fun i6 g _=>⟨fun hd=>⟨⟨ix (st hd),ix (st hc),fun _=>ix (st hd),fun _=>trivial⟩,fun x7 e7 _=>⟨fun hn=>⟨trivial,fun _ _ _=>⟨w (st hd) (by omega),g.skip (st hd) (fun hs=>?_),?_⟩⟩,fun hn=>⟨⟨fun _=>trivial,fun _=>trivial⟩,fun b8 e8 _=>⟨⟨ix (st hd),ix (st hc)⟩,fun _ _ _=>⟨fun hr=>⟨trivial,fun _ _ _=>⟨w (st hd) (by omega),g.step (st hd) ((tv e7).1 hn) (DF e8) (by rw [hr]; rfl),?_⟩⟩,fun hr=>⟨trivial,fun _ _ _=>⟨w (st hd) (by omega),g.step (st hd) ((tv e7).1 hn) (DF e8) (by rw [hr]; rfl),?_⟩⟩⟩⟩⟩⟩⟩,fun hd=>?_⟩⟩,fun b5 _ h5=>⟨fun hb=>⟨⟨ix (st hc),trivial,trivial,trivial,?_⟩,fun _ _ _=>?_⟩,fun hb=>?_⟩⟩⟩⟩,fun b3 _ h3=>⟨trivial,fun _ _ _=>⟨w (st hc) (by omega),⟨st hc,h3⟩,by have:=st hc; show l.length - (i2.2+1) < l.length - i2.2; omega⟩⟩⟩,fun hc=>?_⟩⟩,fun b1 _ h1=>trivial⟩
 ·have hx:wA day (l.getD i2.2 default)=false:=by
   rw [← lM,← show x4=gK (l.getD i2.2 default) day from e4]
   simpa using h4
  show i2.1=He l day (i2.2+1)
  rw [← J4 (Uz hx)]
  exact h.2
 ·rw [(tv e7).2 hs] at hn
  cases hn
 ·have:=st hd; show l.length - (i6.2.2+1) < l.length - i6.2.2; omega
 ·have:=st hd; show l.length - (i6.2.2+1) < l.length - i6.2.2; omega
 ·have:=st hd; show l.length - (i6.2.2+1) < l.length - i6.2.2; omega
 ·have hd:=of_decide_eq_false hd
  have e:i6.2.2=l.length:=Nat.le_antisymm g.1 (by omega)
  have g:Il l day i2.2 i6.1 i6.2.1 i6.2.2:=g
  rw [e] at g
  exact g
 ·have h3:=WM l day i2.2
  have:=st hc
  refine sz ?_
  rw [h.2]
  simp only [List.length_cons,List.length_nil]
  omega
 ·have hx:wA day (l.getD i2.2 default)=true:=by
   rw [← lM,← show x4=gK (l.getD i2.2 default) day from e4]
   simpa using h4
  have h5:Il l day i2.2 b5.1 b5.2.1 l.length:=h5
  rw [h5.done (st hc) hx] at hb
  show i2.1++[(l.getD i2.2 default).report]=He l day (i2.2+1)
  rw [← Qd hb,h.2]
 ·have hx:wA day (l.getD i2.2 default)=true:=by
   rw [← lM,← show x4=gK (l.getD i2.2 default) day from e4]
   simpa using h4
  have h5:Il l day i2.2 b5.1 b5.2.1 l.length:=h5
  rw [h5.done (st hc) hx] at hb
  show i2.1=He l day (i2.2+1)
  rw [← J4 (by rw [hb]; decide)]
  exact h.2
 ·have hc:=of_decide_eq_false hc
  have e:i2.2=l.length:=Nat.le_antisymm h.1 (by omega)
  have h2:=h.2
  rw [e] at h2
  exact h2
def Aa l day:=kp tok mixed Tryz.func72 [lv ah.cells l,iv day] (fun x=>lv ae.cells x) false (O5 l day) (Hf l day) (FT l day)
abbrev Ve (l:List ae) (rep:Int) (i k:Nat):Prop:=(l.getD i default).reporter=rep∧de (l.getD i default) (l.getD k default)=true
theorem O6 {l:List ae} {rep:Int} {i k:Nat} {x6:Bool} (e6:x6=my (l.getD i default) (l.getD k default)):((((l.getD i default).reporter) == rep)&&x6)=true↔Ve l rep i k:=by
 rw [e6,xy,Bool.and_eq_true,beq_iff_eq]
theorem yz {α:Type} [Inhabited α] (p:α→Bool):∀ L:List α,2≤L.countP p↔∃ i k,k < i∧i < L.length∧p (L.getD i default)=true∧p (L.getD k default)=true
 | []=>⟨fun h=>by simp at h,fun ⟨i,k,_,h,_⟩=>absurd h (Nat.not_lt_zero _)⟩
 | x :: L=>by
  rw [List.countP_cons]
  have ih:=yz p L
  constructor
  ·intro h
   cases hp:p x with
   | false =>
    rw [hp] at h
    obtain ⟨i,k,h1,h2,h3,h4⟩:=ih.1 (by simpa using h)
    exact ⟨i+1,k+1,by omega,Nat.succ_lt_succ h2,h3,h4⟩
   | true =>
    rw [hp] at h
    have h:2≤L.countP p+1:=h
    have IU:0 < L.countP p:=by omega
    obtain ⟨y,hy,py⟩:=List.countP_pos_iff.1 IU
    obtain ⟨i,hi,e⟩:=FR hy
    exact ⟨i+1,0,by omega,Nat.succ_lt_succ hi,by show p (L.getD i default)=true; rw [e]; exact py,hp⟩
  ·rintro ⟨i,k,h1,h2,h3,h4⟩
   obtain ⟨i,rfl⟩:∃ j,i=j+1:=⟨i - 1,by omega⟩
   have h3:p (L.getD i default)=true:=h3
   have h2:i < L.length:=Nat.lt_of_succ_lt_succ h2
   cases k with
   | zero =>
    have h4:p x=true:=h4
    have IU:0 < L.countP p:=List.countP_pos_iff.2 ⟨_,eR h2,h3⟩
    rw [h4]
    show 2≤L.countP p+1
    omega
   | succ k =>
    have h4:p (L.getD k default)=true:=h4
    have:=ih.2 ⟨i,k,by omega,h2,h3,h4⟩
    omega
theorem UC {α:Type} [Inhabited α] {L:List α} (h:L.Nodup) {i k:Nat} (hi:i < L.length) (hk:k < i):L.getD i default≠L.getD k default:=by
 intro e
 rw [show L.getD i default=L[i] by simp [List.getD,hi],show L.getD k default=L[k] by simp [List.getD,show k < L.length by omega]] at e
 rw [List.nodup_iff_pairwise_ne,List.pairwise_iff_getElem] at h
 exact h k i (by omega) hi hk e.symm
theorem Ab (a b:ae):de a b=true↔au a=true∧au b=true∧a.reporter=b.reporter∧a.no=b.no∧a≠b:=by
 have e:de a b=((((au a&&au b)&&(a.reporter == b.reporter))&&(a.no == b.no))&&(!(bZ (ae.cells a) (ae.cells b)))):=rfl
 rw [e]
 simp only [Bool.and_eq_true,beq_iff_eq,Bool.not_eq_true',and_assoc]
 refine and_congr_right fun _=>and_congr_right fun _=>and_congr_right fun _=>and_congr_right fun _=>?_
 rw [← Bool.not_eq_true]
 exact not_congr Fx
theorem MT {L:List ae} (hn:L.Nodup) (hr:∀ x,x∈L→au x=true) (r:Int):(∃ i k,k < i∧i < L.length∧Ve L r i k)↔mU L r=true:=by
 have hl:mU L r=true↔∃ c,2≤yJ L r c:=by
  unfold mU
  exact @decide_eq_true_iff _ (_)
 rw [hl]
 constructor
 ·rintro ⟨i,k,h1,h2,h3,h4⟩
  obtain ⟨-,-,g1,g2,-⟩:=(Ab _ _).1 h4
  refine ⟨(L.getD i default).no,?_⟩
  unfold yJ
  rw [yz]
  refine ⟨i,k,h1,h2,?_,?_⟩
  ·rw [h3,beq_self_eq_true,beq_self_eq_true]; rfl
  ·rw [← g1,h3,← g2,beq_self_eq_true,beq_self_eq_true]; rfl
 ·rintro ⟨c,hc⟩
  unfold yJ at hc
  rw [yz] at hc
  obtain ⟨i,k,h1,h2,h3,h4⟩:=hc
  simp only [Bool.and_eq_true,beq_iff_eq] at h3 h4
  exact ⟨i,k,h1,h2,h3.1,(Ab _ _).2 ⟨hr _ (eR h2),hr _ (eR (by omega)),by rw [h3.1,h4.1],by rw [h3.2,h4.2],UC hn h2 h1⟩⟩
def oM (l:List ae) (reporter:Int):Sk (Bool) :=
 .bind true (fun b1=>∀ i,i < l.length→∀ k,k < i→¬ Ve l reporter i k)
 (.loop (default:Sum (Bool) (Unit)) (fun i2=>i2≤l.length∧∀ i,i < i2→∀ k,k < i→¬ Ve l reporter i k) (fun i2=>l.length - i2) (0:Nat)
 (fun (i2:Nat)=>⟨[(5,iv (i2:Int))],[]⟩) fun i2=>let dm:=(i2:Int); let aC:=(((l.getD i2 default).reporter) == reporter);
 .lt 0 0 i2 l.length
 (.bind true (fun b3=>∀ k,k < i2→¬ Ve l reporter i2 k)
 (.bind true (fun b4=>∀ k,k < i2→¬ Ve l reporter i2 k)
 (.loop (default:Sum (Sum (Sum (Sum (Bool) (Unit)) (Nat)) (Unit)) (Int)) (fun i5=>i5≤i2∧∀ k,k < i5→¬ Ve l reporter i2 k) (fun i5=>i2 - i5) (0:Nat)
 (fun (i5:Nat)=>⟨[(6,iv (i5:Int))],[]⟩) fun i5=>let bF:=(i5:Int);
 .br (decide (bF < dm))
 (.r 7 (.ak (.p (cM dm l.length)) (.ak (.wh aC true (.p (cM dm l.length))) (.ak (.wh aC true (.p (cM bF l.length))) (.wh aC true ((vJ (l.getD i2 default) (l.getD i5 default)).c))))) fun x6 =>
 .br (aC&&x6)
 (.fin (.inl (.inl (.inl (.inl (.inl true))))))
 (.nx 6 6 i5 (i5+1)))
 (.fin (.inl (.inr bF))))
 (fun (b4:Int)=>⟨[(6,iv b4)],[]⟩) fun _ =>
 .fin (.inr ()))
 (fun (_:Unit)=>⟨[],[]⟩) fun _ =>
 .nx 3 5 i2 (i2+1))
 (.fin (.inl (.inr ()))))
 (fun (_:Unit)=>⟨[],[]⟩) fun _ =>
 .fin false
def bQ l reporter:=(oM l reporter).val
theorem Ac (l:List ae) (reporter:Int):(oM l reporter).dj (fun (x:Bool)=>x=true↔∃ i k,k < i∧i < l.length∧Ve l reporter i k):=by
 unfold oM
 have st:∀ {i n:Nat},decide ((i:Int) < (n:Int))=true→i < n:=fun h=>by have h:=of_decide_eq_true h; omega
 refine ⟨⟨⟨Nat.zero_le _,fun i hi=>absurd hi (Nat.not_lt_zero _)⟩,fun i2 h=>⟨fun hc=>⟨⟨⟨⟨Nat.zero_le _,fun k hk=>absurd hk (Nat.not_lt_zero _)⟩,fun i5 g=>⟨fun hd=>fun x6 e6 _=>⟨fun hn=>?_,fun hn=>fun _ _ _=>⟨⟨st hd,fun k hk=>?_⟩,?_⟩⟩,fun hd=>?_⟩⟩,fun b4 _ h4=>h4⟩,fun b3 _ h3=>fun _ _ _=>⟨⟨st hc,fun i hi=>?_⟩,by have:=st hc; show l.length - (i2+1) < l.length - i2; omega⟩⟩,fun hc=>?_⟩⟩,fun b0 _ h0=>?_⟩
 ·exact ⟨fun _=>⟨i2,i5,st hd,st hc,(O6 e6).1 hn⟩,fun _=>rfl⟩
 ·by_cases e:k=i5
  ·subst e
   intro hq
   rw [(O6 e6).2 hq] at hn
   cases hn
  ·exact g.2 k (by omega)
 ·have:=st hd; show i2 - (i5+1) < i2 - i5; omega
 ·have hd:=of_decide_eq_false hd
  exact fun k hk=>g.2 k (by omega)
 ·by_cases e:i=i2
  ·subst e
   exact fun k hk=>h3 k hk
  ·exact h.2 i (by omega)
 ·have hc:=of_decide_eq_false hc
  exact fun i hi=>h.2 i (by omega)
 ·exact ⟨fun h=>(by cases h),fun ⟨i,k,h1,h2,h3⟩=>absurd h3 (h0 i h2 k h1)⟩
theorem Hg (l:List ae) (reporter:Int):(fun (x:Bool)=>x=true↔∃ i k,k < i∧i < l.length∧Ve l reporter i k) (bQ l reporter):=have h:=Sk.cN _ (Ac l reporter); h
theorem MU (l:List ae) (reporter:Int):(oM l reporter).bO (fun _=>True):=by
 unfold oM
 have st:∀ {i n:Nat},decide ((i:Int) < (n:Int))=true→i < n:=fun h=>by have h:=of_decide_eq_true h; omega
 have ix:∀ {i n:Nat},i < n→cM (i:Int) n:=fun h=>⟨by omega,by omega⟩
 have w:∀ {i n:Nat},i < n→n≤maxLen→bI ((i:Int)+1)=((i+1:Nat):Int):=fun h h'=>by unfold maxLen at h'; rw [aD (by omega) (by omega)]; omega
 refine ⟨⟨⟨Nat.zero_le _,fun i hi=>absurd hi (Nat.not_lt_zero _)⟩,fun i2 h hb=>⟨fun hc=>⟨⟨⟨⟨Nat.zero_le _,fun k hk=>absurd hk (Nat.not_lt_zero _)⟩,fun i5 g=>⟨fun hd=>⟨⟨ix (st hc),fun _=>ix (st hc),fun _=>ix (by have:=st hd; have:=st hc; omega),fun _=>trivial⟩,fun x6 e6 _=>⟨fun hn=>trivial,fun hn=>⟨trivial,fun _ _ _=>⟨w (st hd) (by have:=st hc; omega),⟨st hd,fun k hk=>?_⟩,?_⟩⟩⟩⟩,fun hd=>?_⟩⟩,fun b4 _ h4=>h4⟩,fun b3 _ h3=>⟨trivial,fun _ _ _=>⟨w (st hc) hb,⟨st hc,fun i hi=>?_⟩,by have:=st hc; show l.length - (i2+1) < l.length - i2; omega⟩⟩⟩,fun hc=>?_⟩⟩,fun b0 _ h0=>trivial⟩
 ·by_cases e:k=i5
  ·subst e
   intro hq
   rw [(O6 e6).2 hq] at hn
   cases hn
  ·exact g.2 k (by omega)
 ·have:=st hd; show i2 - (i5+1) < i2 - i5; omega
 ·have hd:=of_decide_eq_false hd
  exact fun k hk=>g.2 k (by omega)
 ·by_cases e:i=i2
  ·subst e
   exact fun k hk=>h3 k hk
  ·exact h.2 i (by omega)
 ·have hc:=of_decide_eq_false hc
  exact fun i hi=>h.2 i (by omega)
def FU l reporter:=kp tok mixed Tryz.func73 [lv ae.cells l,iv reporter] (fun x=>bv x) true (bQ l reporter) (u0 (MU l reporter)) (Ac l reporter)
theorem RG {L:List ae} (hn:L.Nodup) (hr:∀ x,x∈L→au x=true) (r:Int):bQ L r=mU L r:=by
 have h:bQ L r=true↔∃ i k,k < i∧i < L.length∧Ve L r i k:=Hg L r
 rw [Bool.eq_iff_iff,h]
 exact MT hn hr r
theorem vS {l:List ah} {day:Int} {A:List ae} (h:A.Perm (aY l day)) (r:Int):bQ A r=mU (aY l day) r:=by
 rw [RG (h.nodup_iff.2 (kY l day)) (fun x hx=>(lW (h.mem_iff.1 hx)).1),RC h]
def Gu (A:List ae) (n:Nat):List Int:=((List.range n).filter fun k=>bQ A ((k:Nat):Int)).map fun k=>((k:Nat):Int)
theorem WN (A:List ae) (n:Nat):(Gu A n).length≤n:=by
 unfold Gu
 rw [List.length_map]
 have:=List.length_filter_le (fun k:Nat=>bQ A (k:Int)) (List.range n)
 rw [List.length_range] at this
 exact this
theorem Qe {A:List ae} {n:Nat} (h:bQ A ((n:Nat):Int)=true):Gu A n++[((n:Nat):Int)]=Gu A (n+1):=by
 unfold Gu
 rw [List.range_succ,List.filter_append,List.map_append,List.filter_cons,if_pos h]
 rfl
theorem UD {A:List ae} {n:Nat} (h:bQ A ((n:Nat):Int)=false):Gu A n=Gu A (n+1):=by
 unfold Gu
 rw [List.range_succ,List.filter_append,List.filter_cons,if_neg (by rw [h]; decide)]
 simp
theorem WO {l:List ah} {day:Int} {r:Int} (h:mU (aY l day) r=true):0≤r∧r < 200:=by
 obtain ⟨i,k,h1,h2,h3,h4⟩:=(MT (kY l day) (fun x hx=>(lW hx).1) r).2 h
 have:=((wK _).1 (lW (eR h2)).1).1
 rw [h3] at this
 exact this
theorem UE {l:List ah} {day:Int} (hl:l.length≤1200) {A:List ae} (h:A.Perm (aY l day)):Gu A 200=bJ l day:=by
 obtain ⟨m,hm⟩:=qu (aY l day)
 have e:=oY hl hm
 have dY:∀ r,r∈Gu A 200↔r∈bJ l day:=fun r=>by
  have h1:r∈bJ l day↔mU (aY l day) r=true:=by
   rw [e,OO hm]
   unfold mU
   exact (@decide_eq_true_iff _ (_)).symm
  rw [h1]
  unfold Gu
  rw [List.mem_map]
  constructor
  ·rintro ⟨k,hk,rfl⟩
   rw [← vS h]
   exact (List.mem_filter.1 hk).2
  ·intro hr
   have:=WO hr
   refine ⟨r.toNat,List.mem_filter.2 ⟨List.mem_range.2 (by omega),?_⟩,by omega⟩
   show bQ A ((r.toNat:Nat):Int)=true
   rw [show ((r.toNat:Nat):Int)=r by omega,vS h]
   exact hr
 have p1:(Gu A 200).Pairwise (· < ·):=by
  unfold Gu
  rw [List.pairwise_map]
  exact (List.pairwise_lt_range.filter _).imp fun h=>by omega
 have Qs:(m.map Prod.fst).Nodup:=hm.1
 have pp:(jo (m.map Prod.fst)).Perm (m.map Prod.fst):=List.mergeSort_perm _ _
 have p2:(bJ l day).Pairwise (·≤·):=by
  rw [e]
  have:=List.pairwise_mergeSort (le:=fun x y:Int=>decide (x≤y)) (fun a b c h1 h2=>by simp only [decide_eq_true_eq] at *; omega) (fun a b=>by simp only [Bool.or_eq_true,decide_eq_true_eq]; omega) (m.map Prod.fst)
  exact this.imp fun h=>of_decide_eq_true h
 have nd2:(bJ l day).Nodup:=by rw [e]; exact pp.nodup_iff.2 Qs
 have nd1:(Gu A 200).Nodup:=p1.imp fun h=>by omega
 have perm:(Gu A 200).Perm (bJ l day):=(List.perm_ext_iff_of_nodup nd1 nd2).2 dY
 exact List.Perm.eq_of_pairwise (fun a b _ _ h1 h2=>Int.le_antisymm h1 h2) (p1.imp fun h=>Int.le_of_lt h) p2 perm
theorem xD:∀ (a b:List UInt8),Op.bytesLess a b=true↔a < b
 | a,[]=>by cases a <;> simp [Op.bytesLess]
 | [],_ :: _=>by simp [Op.bytesLess]
 | a :: x,b :: y=>by
  rw [List.cons_lt_cons_iff,← xD x y]
  simp [Op.bytesLess]
theorem RH (a b:ByteArray):strLt a b=true↔a.data.toList < b.data.toList:=by
 unfold strLt
 rw [xD,Lib.toList_data,Lib.toList_data]
def RR (x:ae):Prop:=x.dT∧au x=true
abbrev KG (a b:ae):Prop:=E9 a < E9 b
theorem abu {x y:ae} (hx:RR x) (hy:RR y) (gN:x≠y) (h:¬ KG x y):KG y x:=by
 refine Decidable.byContradiction fun h2=>gN ?_
 exact Fa hx.1 hy.1 hx.2 hy.2 (List.le_antisymm (List.not_lt.1 h2) (List.not_lt.1 h))
theorem RI {x y z:ae} (h1:KG x y) (h2:KG y z):KG x z:=List.lt_trans h1 h2
theorem O7 {x:ae} {o:List ae} {p:Nat} (hs:o.Pairwise KG) (h1:∀ y,y∈o.take p→KG y x) (h2:∀ y,y∈o.drop p→KG x y):(o.take p++x :: o.drop p).Pairwise KG:=by
 have yG:=hs
 rw [← List.take_append_drop p o,List.pairwise_append] at hs
 obtain ⟨a1,a2,a3⟩:=hs
 rw [List.pairwise_append,List.pairwise_cons]
 refine ⟨a1,⟨h2,a2⟩,fun a ha b hb=>?_⟩
 rcases List.mem_cons.1 hb with rfl | hb
 ·exact h1 a ha
 ·exact a3 a ha b hb
theorem UF (x:ae) (o:List ae) (p:Nat):(o.take p++x :: o.drop p).Perm (x :: o):=by
 refine List.perm_middle.trans ?_
 rw [List.take_append_drop]
def KN (x:ae) (o nx:List ae) (dn:Bool) (k:Nat):Prop:=k≤o.length∧((dn=false∧nx=o.take k∧∀ y,y∈o.take k→¬ KG x y)∨(dn=true∧∃ p,p < k∧nx=o.take p++x :: (o.take k).drop p∧(∀ y,y∈o.take p→¬ KG x y)∧KG x (o.getD p default)))
theorem KN.start (x:ae) (o:List ae):KN x o [] false 0:=⟨Nat.zero_le _,.inl ⟨rfl,rfl,fun y hy=>by simp at hy⟩⟩
theorem KN.put {x:ae} {o nx:List ae} {dn:Bool} {k:Nat} (h:KN x o nx dn k) (hk:k < o.length) (hd:dn=false) (hl:KG x (o.getD k default)):KN x o ((nx++[x])++[o.getD k default]) true (k+1):=by
 obtain ⟨h1,h2 | h2⟩:=h
 ·obtain ⟨-,e,h3⟩:=h2
  refine ⟨hk,.inr ⟨rfl,k,by omega,?_,h3,hl⟩⟩
  rw [gy hk,List.drop_append_of_le_length (by simp; omega),e]
  simp
 ·rw [h2.1] at hd; cases hd
theorem KN.pass {x:ae} {o nx:List ae} {dn:Bool} {k:Nat} (h:KN x o nx dn k) (hk:k < o.length) (hl:dn=true∨¬ KG x (o.getD k default)):KN x o (nx++[o.getD k default]) dn (k+1):=by
 obtain ⟨h1,⟨e0,e,h3⟩ | ⟨e0,p,hp,e,h3,h4⟩⟩:=h
 ·refine ⟨hk,.inl ⟨e0,by rw [gy hk,e],fun y hy=>?_⟩⟩
  rw [gy hk] at hy
  rcases List.mem_append.1 hy with hy | hy
  ·exact h3 y hy
  ·simp only [List.mem_singleton] at hy
   subst hy
   rcases hl with hl | hl
   ·rw [e0] at hl; cases hl
   ·exact hl
 ·refine ⟨hk,.inr ⟨e0,p,by omega,?_,h3,h4⟩⟩
  rw [gy hk,List.drop_append_of_le_length (by simp; omega),e]
  simp
theorem KN.len {x:ae} {o nx:List ae} {dn:Bool} {k:Nat} (h:KN x o nx dn k):nx.length≤o.length+1:=by
 obtain ⟨h1,⟨e0,e,h3⟩ | ⟨e0,p,hp,e,h3,h4⟩⟩:=h
 ·rw [e,List.length_take]; omega
 ·rw [e]
  simp only [List.length_append,List.length_cons,List.length_take,List.length_drop]
  omega
def KS (A:List ae) (i:Nat) (o:List ae):Prop:=o.Pairwise KG∧o.Perm ((A.take i).filter fun c=>!bQ A c.reporter)
theorem KS.len {A o:List ae} {i:Nat} (h:KS A i o):o.length≤A.length:=by
 rw [h.2.length_eq]
 have h1:=List.length_filter_le (fun c:ae=>!bQ A c.reporter) (A.take i)
 rw [List.length_take] at h1
 omega
theorem KS.skip {A o:List ae} {i:Nat} (h:KS A i o) (hi:i < A.length) (hl:bQ A (A.getD i default).reporter=true):KS A (i+1) o:=by
 refine ⟨h.1,?_⟩
 rw [gy hi,List.filter_append,List.filter_cons,if_neg (by rw [hl]; decide)]
 simpa using h.2
theorem KS.put {A o:List ae} {i:Nat} (h:KS A i o) (hn:A.Nodup) (hR:∀ x,x∈A→RR x) (hi:i < A.length) (hl:bQ A (A.getD i default).reporter=false) {nx:List ae} {dn:Bool} (hk:KN (A.getD i default) o nx dn o.length):KS A (i+1) (bif !dn then nx++[A.getD i default] else nx):=by
 have dY:∀ y,y∈o→y∈A.take i:=fun y hy=>(List.mem_filter.1 (h.2.mem_iff.1 hy)).1
 have gN:∀ y,y∈o→A.getD i default≠y:=fun y hy e=>by
  have h1:=dY y hy
  rw [← e] at h1
  have h2:(A.take i++[A.getD i default]).Nodup:=by rw [← gy hi]; exact (List.take_sublist _ _).nodup hn
  rw [List.nodup_append] at h2
  exact h2.2.2 _ h1 _ (by simp) rfl
 have hRo:∀ y,y∈o→RR y:=fun y hy=>hR y (List.mem_of_mem_take (dY y hy))
 have hx:RR (A.getD i default):=hR _ (eR hi)
 have hT:=gy hi
 generalize A.getD i default=x at *
 have key:∃ p,p≤o.length∧(bif !dn then nx++[x] else nx)=o.take p++x :: o.drop p∧(∀ y,y∈o.take p→¬ KG x y)∧∀ y,y∈o.drop p→KG x y:=by
  obtain ⟨-,⟨e0,e,h3⟩ | ⟨e0,p,hp,e,h3,h4⟩⟩:=hk
  ·rw [e0]
   refine ⟨o.length,Nat.le_refl _,?_,h3,fun y hy=>by simp at hy⟩
   rw [List.take_length] at e
   show nx++[x]=_
   rw [e]
   simp
  ·rw [e0]
   refine ⟨p,by omega,?_,h3,fun y hy=>?_⟩
   ·rw [List.take_length] at e
    exact e
   ·have hd:o.drop p=o.getD p default :: o.drop (p+1):=by
     rw [List.drop_eq_getElem_cons hp]
     simp [List.getD,hp]
    have hs:=h.1
    rw [← List.take_append_drop p o,List.pairwise_append,hd,List.pairwise_cons] at hs
    rw [hd] at hy
    rcases List.mem_cons.1 hy with rfl | hy
    ·exact h4
    ·exact RI h4 (hs.2.1.1 y hy)
 obtain ⟨p,hp,e,h1,h2⟩:=key
 rw [e]
 refine ⟨O7 h.1 (fun y hy=>abu hx (hRo y (List.mem_of_mem_take hy)) (gN y (List.mem_of_mem_take hy)) (h1 y hy)) h2,(UF _ _ _).trans ?_⟩
 rw [hT,List.filter_append,List.filter_cons,if_pos (by rw [hl]; rfl)]
 exact (h.2.cons x).trans (List.perm_append_singleton x _).symm
theorem UG {l:List ah} {day:Int} {A:List ae} (h:A.Perm (aY l day)) (hi:∀ a,a∈l→a.report.dT):∀ x,x∈A→RR x:=fun x hx=>by
 obtain ⟨h1,a,h2,h3⟩:=lW (h.mem_iff.1 hx)
 exact ⟨h3 ▸ hi a h2,h1⟩
theorem KS.done {l:List ah} {day:Int} {A o:List ae} (hl:l.length≤1200) (hi:∀ a,a∈l→a.report.dT) (hA:A.Perm (aY l day)) (h:KS A A.length o):o=aB l day:=by
 rw [gm hl hi]
 unfold vF
 have hf:(fun c:ae=>!mU (aY l day) c.reporter)=fun c=>!bQ A c.reporter:=by
  funext c
  rw [vS hA]
 rw [hf]
 have hp:o.Perm ((aY l day).filter fun c=>!bQ A c.reporter):=by
  have:=h.2
  rw [List.take_length] at this
  exact this.trans (hA.filter _)
 have hR:=UG hA hi
 have hRo:∀ y,y∈o→RR y:=fun y hy=>hR y (hA.mem_iff.2 (List.mem_filter.1 (hp.mem_iff.1 hy)).1)
 have hs:=gA (l:=(aY l day).filter fun c=>!bQ A c.reporter) (fun s hs=>(hRo s (hp.mem_iff.2 hs)).1)
 have DP:(dS ((aY l day).filter fun c=>!bQ A c.reporter)).Pairwise (fun x y:ae=>¬ E9 y < E9 x):=by
  rw [List.pairwise_iff_getElem]
  intro i j hi hj UY
  have:=rX ((aY l day).filter fun c=>!bQ A c.reporter) i j UY hj
  rwa [show (dS ((aY l day).filter fun c=>!bQ A c.reporter)).getD j default=(dS ((aY l day).filter fun c=>!bQ A c.reporter))[j] by simp [List.getD,hj],show (dS ((aY l day).filter fun c=>!bQ A c.reporter)).getD i default=(dS ((aY l day).filter fun c=>!bQ A c.reporter))[i] by simp [List.getD,hi]] at this
 have ho:o.Pairwise (fun x y:ae=>¬ E9 y < E9 x):=h.1.imp fun {a b} IZ hba=>List.lt_irrefl _ (List.lt_trans IZ hba)
 refine List.Perm.eq_of_pairwise (fun x y hx hy h1 h2=>?_) ho DP (hp.trans hs.symm)
 have ZV:=hRo y (hp.mem_iff.2 (hs.mem_iff.1 hy))
 have ZU:=hRo x hx
 exact Fa ZU.1 ZV.1 ZU.2 ZV.2 (List.le_antisymm (List.not_lt.1 h1) (List.not_lt.1 h2))
theorem J5 {x y:ae} (hx:x.dT) (hy:y.dT) {a b:ByteArray} (ha:a=eY x) (hb:b=eY y):strLt a b=true↔KG x y:=by
 rw [RH,ha,hb,sV hx,sV hy]
 exact Iff.rfl
theorem KS.start (A:List ae):KS A 0 []:=⟨List.Pairwise.nil,by simp⟩
def kr (l:List ah) (day:Int):Sk ((List ae)) :=
 .br (decide (((l.length:Nat):Int) > 1200))
 (.fin [])
 (.r 3 ((Aa l day).c) fun x1 =>
 .bind true (fun b2=>KS x1 x1.length b2)
 (.loop (default:Sum ((List ae)) ((List ae))) (fun i3=>i3.2≤x1.length∧KS x1 i3.2 i3.1) (fun i3=>x1.length - i3.2) (([],0):(List ae) × Nat)
 (fun (i3:(List ae) × Nat)=>⟨[(6,ow 100030 i3.1),(7,iv (i3.2:Int))],[(100030,cm 37 44 ae.cells i3.1)]⟩) fun i3=>let yH:=(ae.E.jz [x1.getD i3.2 default]); let yI:=(dw ae.E [x1.getD i3.2 default]); let eX:=(x1.getD i3.2 default); let aC:=(cM (i3.2:Int) x1.length);
 .lt 5 0 i3.2 x1.length
 (.bind true (fun b4=>KS x1 (i3.2+1) b4)
 (.r 8 (.ak (.p aC) ((FU x1 (eX.reporter)).c)) fun x5 =>
 .br x5
 (.fin (.inr i3.1))
 (.bind true (fun b6=>KN eX i3.1 b6.1 b6.2.1 i3.1.length)
 (.loop (default:Sum (Sum (Sum (Sum ((List ae)) ((List ae))) ((List ae) × Nat)) ((List ae))) ((List ae) × Bool × Int)) (fun i7=>KN eX i3.1 i7.1 i7.2.1 i7.2.2) (fun i7=>i3.1.length - i7.2.2) (([],false,0):(List ae) × Bool × Nat)
 (fun (i7:(List ae) × Bool × Nat)=>⟨[(8,ow 100044 i7.1),(9,bv i7.2.1),(10,iv (i7.2.2:Int))],[(100044,cm 37 44 ae.cells i7.1)]⟩) fun i7=>let uW:=(i7.2.2 < i3.1.length); let l8:=(ae.E.jz [i3.1.getD i7.2.2 default]); let lU:=(dw ae.E [i3.1.getD i7.2.2 default]); let dm:=(i7.1++[x1.getD i3.2 default]); let bF:=(cM (i7.2.2:Int) i3.1.length);
 .lt 6 0 i7.2.2 i3.1.length
 (.r 14 (.ak (.wh (!i7.2.1) true (.p aC)) (.dep (.wh (!i7.2.1) true ((uw eX).c)) fun _=>.ak (.wh (!i7.2.1) true (.p bF)) (.ak (.wh (!i7.2.1) true (.p uW)) (.wh (!i7.2.1) true ((uw (i3.1.getD i7.2.2 default)).c))))) fun EV =>
 .br ((!i7.2.1)&&(strLt EV.1 EV.2))
 (.r 15 (.ak (.p aC) (.ak (.o [.dU yI]) (.ak (.o [.dU (fo ae.E i7.1 [x1.getD i3.2 default])]) (.ak (.t yH) (.p (jH i7.1.length [x1.getD i3.2 default].length 352)))))) fun _ =>
 .r 17 (.ak (.p bF) (.ak (.p uW) (.ak (.o [.dU lU]) (.ak (.o [.dU (fo ae.E dm [i3.1.getD i7.2.2 default])]) (.ak (.t l8) (.p (jH (dm.length) [i3.1.getD i7.2.2 default].length 352))))))) fun _ =>
 .nx 13 10 i7.2.2 (dm++[i3.1.getD i7.2.2 default],true,i7.2.2+1))
 (.r 17 (.ak (.p bF) (.ak (.p uW) (.ak (.o [.dU lU]) (.ak (.o [.dU (fo ae.E i7.1 [i3.1.getD i7.2.2 default])]) (.ak (.t l8) (.p (jH i7.1.length [i3.1.getD i7.2.2 default].length 352))))))) fun _ =>
 .nx 13 10 i7.2.2 (i7.1++[i3.1.getD i7.2.2 default],i7.2.1,i7.2.2+1)))
 (.fin (.inl (.inr (i7.1,i7.2.1,(i7.2.2:Int))))))
 (fun (b6:(List ae) × Bool × Int)=>⟨[(8,ow 100043 b6.1),(9,bv b6.2.1),(10,iv b6.2.2)],[(100043,cm 37 44 ae.cells b6.1)]⟩) fun b6 =>
 .br (!b6.2.1)
 (.r 19 (.ak (.p aC) (.ak (.o [.dU yI]) (.ak (.o [.dU (fo ae.E b6.1 [x1.getD i3.2 default])]) (.ak (.t yH) (.p (jH b6.1.length [x1.getD i3.2 default].length 352)))))) fun _ =>
 .fin (.inr (b6.1++[x1.getD i3.2 default])))
 (.fin (.inr b6.1))))
 (fun (b4:(List ae))=>⟨[(6,ow 100041 b4)],[(100041,cm 37 44 ae.cells b4)]⟩) fun b4 =>
 .nx 7 7 i3.2 (b4,i3.2+1))
 (.fin (.inl (.inr i3.1))))
 (fun (b2:(List ae))=>⟨[(6,ow 100022 b2)],[(100022,cm 37 44 ae.cells b2)]⟩) fun b2 =>
 .fin b2)
def nK l day:=(kr l day).val
theorem Hh (l:List ah) (day:Int) (hP:l.length≤1200∧∀ a,a∈l→a.report.dT):(kr l day).dj (fun (x:(List ae))=>x=aB l day):=by
 unfold kr
 obtain ⟨hl,hi⟩:=hP
 have st:∀ {i n:Nat},decide ((i:Int) < (n:Int))=true→i < n:=fun h=>by have h:=of_decide_eq_true h; omega
 refine ⟨fun hc=>?_,fun hc=>fun x1 e1 k1=>?_⟩
 ·have hc:=of_decide_eq_true hc
  omega
 have hA:x1.Perm (aY l day):=k1
 have hR:=UG hA hi
 have hN:x1.Nodup:=hA.nodup_iff.2 (kY l day)
 refine ⟨⟨⟨Nat.zero_le _,KS.start _⟩,fun i3 h=>⟨fun hd=>⟨fun x5 e5 _=>⟨fun h5=>h.2.skip (st hd) (by rw [← show x5=bQ x1 (x1.getD i3.2 default).reporter from e5]; exact h5),fun h5=>⟨⟨KN.start _ _,fun i7 g=>⟨fun hk=>fun EV MV _=>⟨fun hn=>fun _ _ _=>fun _ _ _=>fun _ _ _=>⟨g.put (st hk) ?_ ?_,?_⟩,fun hn=>fun _ _ _=>fun _ _ _=>⟨g.pass (st hk) ?_,?_⟩⟩,fun hk=>?_⟩⟩,fun b6 _ h6=>⟨fun hb=>fun _ _ _=>?_,fun hb=>?_⟩⟩⟩,fun b4 _ h4=>fun _ _ _=>⟨⟨st hd,h4⟩,by have:=st hd; show x1.length - (i3.2+1) < x1.length - i3.2; omega⟩⟩,fun hd=>?_⟩⟩,fun b2 _ h2=>h2.done hl hi hA⟩
 all_goals first
  | (have hxR:=hR _ (eR (st hd)))
  | skip
 ·rw [Bool.and_eq_true,Bool.not_eq_true'] at hn
  exact hn.1
 ·have hy:RR (i3.1.getD i7.2.2 default):=hR _ (List.mem_of_mem_take (List.mem_filter.1 (h.2.2.mem_iff.1 (eR (st hk)))).1)
  rw [Bool.and_eq_true] at hn
  have MV:EV=(eY (x1.getD i3.2 default),eY (i3.1.getD i7.2.2 default)):=MV
  exact (J5 hxR.1 hy.1 (by rw [MV]) (by rw [MV])).1 hn.2
 ·have:=st hk; show i3.1.length - (i7.2.2+1) < i3.1.length - i7.2.2; omega
 ·have hy:RR (i3.1.getD i7.2.2 default):=hR _ (List.mem_of_mem_take (List.mem_filter.1 (h.2.2.mem_iff.1 (eR (st hk)))).1)
  have MV:EV=(eY (x1.getD i3.2 default),eY (i3.1.getD i7.2.2 default)):=MV
  cases hdn:i7.2.1 with
  | true=>exact .inl rfl
  | false =>
   refine .inr fun cI=>?_
   rw [(J5 hxR.1 hy.1 (show EV.1=_ by rw [MV]) (show EV.2=_ by rw [MV])).2 cI,hdn] at hn
   cases hn
 ·have:=st hk; show i3.1.length - (i7.2.2+1) < i3.1.length - i7.2.2; omega
 ·have hk:=of_decide_eq_false hk
  have g:KN (x1.getD i3.2 default) i3.1 i7.1 i7.2.1 i7.2.2:=g
  have e:i7.2.2=i3.1.length:=Nat.le_antisymm g.1 (by omega)
  rw [e] at g
  exact g
 ·have h6:KN (x1.getD i3.2 default) i3.1 b6.1 b6.2.1 i3.1.length:=h6
  have:=h.2.put hN hR (st hd) (by rw [← show x5=bQ x1 (x1.getD i3.2 default).reporter from e5]; exact h5) h6
  rw [hb] at this
  exact this
 ·have h6:KN (x1.getD i3.2 default) i3.1 b6.1 b6.2.1 i3.1.length:=h6
  have:=h.2.put hN hR (st hd) (by rw [← show x5=bQ x1 (x1.getD i3.2 default).reporter from e5]; exact h5) h6
  rw [hb] at this
  exact this
 ·have hd:=of_decide_eq_false hd
  have e:i3.2=x1.length:=Nat.le_antisymm h.1 (by omega)
  have h2:=h.2
  rw [e] at h2
  exact h2
theorem mJ (l:List ah) (day:Int):(fun (x:(List ae))=>(l.length≤1200∧∀ a,a∈l→a.report.dT)→(x=aB l day)) (nK l day):=fun hP=>have h:=Sk.cN _ (Hh l day hP); h
theorem J6 (l:List ah) (day:Int) (hi:∀ a,a∈l→a.report.dT):(kr l day).bO (fun _=>True):=by
 unfold kr
 have st:∀ {i n:Nat},decide ((i:Int) < (n:Int))=true→i < n:=fun h=>by have h:=of_decide_eq_true h; omega
 have sz:∀ {n m:Nat},n+m≤3000→jH n m 352:=fun h=>by simp only [jH,maxLen]; omega
 have ix:∀ {i n:Nat},i < n→cM (i:Int) n:=fun h=>⟨by omega,by omega⟩
 have w:∀ {i n:Nat},i < n→n≤1000000→bI ((i:Int)+1)=((i+1:Nat):Int):=fun h h'=>by rw [aD (by omega) (by omega)]; omega
 refine ⟨fun hc=>trivial,fun hc=>⟨by have hc:=of_decide_eq_false hc; show l.length≤1200; omega,fun x1 e1 k1=>?_⟩⟩
 have hl:l.length≤1200:=by have hc:=of_decide_eq_false hc; omega
 have hA:x1.Perm (aY l day):=k1
 have hR:=UG hA hi
 have hN:x1.Nodup:=hA.nodup_iff.2 (kY l day)
 have l1:x1.length≤1200:=by have:=hA.length_eq; have:=rh l day; omega
 refine ⟨⟨⟨Nat.zero_le _,KS.start _⟩,fun i3 h _=>⟨fun hd=>⟨⟨⟨ix (st hd),trivial⟩,fun x5 e5 _=>⟨fun h5=>h.2.skip (st hd) (by rw [← show x5=bQ x1 (x1.getD i3.2 default).reporter from e5]; exact h5),fun h5=>⟨⟨KN.start _ _,fun i7 g _=>⟨fun hk=>⟨⟨fun _=>ix (st hd),fun _=>(hR _ (eR (st hd))).1,fun _ _ _=>⟨fun _=>ix (st hk),fun _=>st hk,fun _=>?_⟩⟩,fun EV MV _=>⟨fun hn=>⟨⟨ix (st hd),trivial,trivial,trivial,?_⟩,fun _ _ _=>⟨⟨ix (st hk),st hk,trivial,trivial,trivial,?_⟩,fun _ _ _=>⟨trivial,fun _ _ _=>⟨w (st hk) ?_,g.put (st hk) ?_ ?_,?_⟩⟩⟩⟩,fun hn=>⟨⟨ix (st hk),st hk,trivial,trivial,trivial,?_⟩,fun _ _ _=>⟨trivial,fun _ _ _=>⟨w (st hk) ?_,g.pass (st hk) ?_,?_⟩⟩⟩⟩⟩,fun hk=>?_⟩⟩,fun b6 _ h6=>⟨fun hb=>⟨⟨ix (st hd),trivial,trivial,trivial,?_⟩,fun _ _ _=>?_⟩,fun hb=>?_⟩⟩⟩⟩,fun b4 _ h4=>⟨trivial,fun _ _ _=>⟨w (st hd) (by omega),⟨st hd,h4⟩,by have:=st hd; show x1.length - (i3.2+1) < x1.length - i3.2; omega⟩⟩⟩,fun hd=>?_⟩⟩,fun b2 _ h2=>trivial⟩
 all_goals first
  | (have hxR:=hR _ (eR (st hd)); have l3:=h.2.len)
  | skip
 ·exact (hR _ (List.mem_of_mem_take (List.mem_filter.1 (h.2.2.mem_iff.1 (eR (st hk)))).1)).1
 ·have:=g.len; exact sz (by show i7.1.length+1≤3000; omega)
 ·have:=g.len; exact sz (by show (i7.1++[x1.getD i3.2 default]).length+1≤3000; simp; omega)
 ·omega
 ·rw [Bool.and_eq_true,Bool.not_eq_true'] at hn
  exact hn.1
 ·have hy:RR (i3.1.getD i7.2.2 default):=hR _ (List.mem_of_mem_take (List.mem_filter.1 (h.2.2.mem_iff.1 (eR (st hk)))).1)
  rw [Bool.and_eq_true] at hn
  have MV:EV=(eY (x1.getD i3.2 default),eY (i3.1.getD i7.2.2 default)):=MV
  exact (J5 hxR.1 hy.1 (by rw [MV]) (by rw [MV])).1 hn.2
 ·have:=st hk; show i3.1.length - (i7.2.2+1) < i3.1.length - i7.2.2; omega
 ·have:=g.len; exact sz (by show i7.1.length+1≤3000; omega)
 ·omega
 ·have hy:RR (i3.1.getD i7.2.2 default):=hR _ (List.mem_of_mem_take (List.mem_filter.1 (h.2.2.mem_iff.1 (eR (st hk)))).1)
  have MV:EV=(eY (x1.getD i3.2 default),eY (i3.1.getD i7.2.2 default)):=MV
  cases hdn:i7.2.1 with
  | true=>exact .inl rfl
  | false =>
   refine .inr fun cI=>?_
   rw [(J5 hxR.1 hy.1 (show EV.1=_ by rw [MV]) (show EV.2=_ by rw [MV])).2 cI,hdn] at hn
   cases hn
 ·have:=st hk; show i3.1.length - (i7.2.2+1) < i3.1.length - i7.2.2; omega
 ·have hk:=of_decide_eq_false hk
  have g:KN (x1.getD i3.2 default) i3.1 i7.1 i7.2.1 i7.2.2:=g
  have e:i7.2.2=i3.1.length:=Nat.le_antisymm g.1 (by omega)
  rw [e] at g
  exact g
 ·have h6:KN (x1.getD i3.2 default) i3.1 b6.1 b6.2.1 i3.1.length:=h6
  have:=h6.len
  exact sz (by show b6.1.length+1≤3000; omega)
 ·have h6:KN (x1.getD i3.2 default) i3.1 b6.1 b6.2.1 i3.1.length:=h6
  have:=h.2.put hN hR (st hd) (by rw [← show x5=bQ x1 (x1.getD i3.2 default).reporter from e5]; exact h5) h6
  rw [hb] at this
  exact this
 ·have h6:KN (x1.getD i3.2 default) i3.1 b6.1 b6.2.1 i3.1.length:=h6
  have:=h.2.put hN hR (st hd) (by rw [← show x5=bQ x1 (x1.getD i3.2 default).reporter from e5]; exact h5) h6
  rw [hb] at this
  exact this
 ·have hd:=of_decide_eq_false hd
  have e:i3.2=x1.length:=Nat.le_antisymm h.1 (by omega)
  have h2:=h.2
  rw [e] at h2
  exact h2
def B3 l day:=kk tok mixed Tryz.func32 [lv ah.cells l,iv day] (fun x=>lv ae.cells x) false (kr l day) (nK l day) (J6 l day) (fun (x:(List ae))=>(l.length≤1200∧∀ a,a∈l→a.report.dT)→(x=aB l day)) (mJ l day)
def pN (a:Body) (b:Body):Sk (Bool) :=
 .fin (((((a.kind == b.kind)&&(a.bill == b.bill))&&(a.index == b.index))&&(a.fact.kind == b.fact.kind))&&(a.fact.at_ == b.fact.at_))
def fM a b:=(pN a b).val
theorem J7 (a:Body) (b:Body):(pN a b).bO (fun _=>True):=by
 unfold pN
 exact DB
def MW a b:=kk tok mixed Tryz.func100 [av a.cells,av b.cells] (fun x=>bv x) true (pN a b) (fM a b) (u0 (J7 a b))
def xL (l:List ae) (one b:Body):Prop:=(∃ y,y∈l∧fM y.body one=true∧y.body=b)∧∀ y,y∈l→fM y.body one=true→y.body=b
def UH (l:List ae) (one:Body) (x:Body × Bool):Prop:=(x.2=true→xL l one x.1)∧(x.2=false→¬ ∃ b,xL l one b)
def SI (l:List ae) (one:Body) (f:Bool) (k:Nat) (b:Body):Prop:=k≤l.length∧(f=false→∀ p,p < k→fM (l.getD p default).body one=false)∧(f=true→(∃ p,p < k∧fM (l.getD p default).body one=true∧(l.getD p default).body=b)∧∀ p,p < k→fM (l.getD p default).body one=true→(l.getD p default).body=b)
theorem Zs {a b:Body}:bZ (Body.cells a) (Body.cells b)=true↔a=b:=⟨fun h=>Body.lV (kb rfl rfl h),fun h=>by subst h; exact kT rfl⟩
theorem SI.start (l:List ae) (one b:Body):SI l one false 0 b:=⟨Nat.zero_le _,fun _ p hp=>absurd hp (Nat.not_lt_zero _),fun h=>(by cases h)⟩
theorem SI.skip {l:List ae} {one b:Body} {f:Bool} {k:Nat} (h:SI l one f k b) (hk:k < l.length) (ha:fM (l.getD k default).body one=false):SI l one f (k+1) b:=by
 refine ⟨hk,fun hf p hp=>?_,fun hf=>?_⟩
 ·by_cases e:p=k
  ·rw [e]; exact ha
  ·exact h.2.1 hf p (by omega)
 ·obtain ⟨⟨p,h1,h2⟩,h3⟩:=h.2.2 hf
  refine ⟨⟨p,by omega,h2⟩,fun q hq IZ=>?_⟩
  by_cases e:q=k
  ·rw [e,ha] at IZ; cases IZ
  ·exact h3 q (by omega) IZ
theorem SI.put {l:List ae} {one b:Body} {f:Bool} {k:Nat} (h:SI l one f k b) (hk:k < l.length) (ha:fM (l.getD k default).body one=true) (hs:f=false∨(l.getD k default).body=b):SI l one true (k+1) (l.getD k default).body:=by
 refine ⟨hk,fun hf=>(by cases hf),fun _=>⟨⟨k,by omega,ha,rfl⟩,fun q hq IZ=>?_⟩⟩
 by_cases e:q=k
 ·rw [e]
 ·cases hf:f with
  | false =>
   rw [h.2.1 hf q (by omega)] at IZ
   cases IZ
  | true =>
   rcases hs with hs | hs
   ·rw [hf] at hs; cases hs
   ·rw [(h.2.2 hf).2 q (by omega) IZ,hs]
theorem SI.abv {l:List ae} {one b:Body} {f:Bool} {k:Nat} (h:SI l one f k b) (hk:k < l.length) (ha:fM (l.getD k default).body one=true) (hf:f=true) (hs:(l.getD k default).body≠b):¬ ∃ b,xL l one b:=by
 rintro ⟨b',-,h3⟩
 obtain ⟨⟨p,h1,h2,h4⟩,-⟩:=h.2.2 hf
 refine hs ?_
 rw [h3 _ (eR hk) ha,← h4,h3 _ (eR (by omega)) h2]
theorem SI.done {l:List ae} {one b:Body} {f:Bool} (h:SI l one f l.length b):UH l one (b,f):=by
 refine ⟨fun hf=>?_,fun hf=>?_⟩
 ·obtain ⟨⟨p,h1,h2,h3⟩,h4⟩:=h.2.2 hf
  refine ⟨⟨_,eR h1,h2,h3⟩,fun y hy IZ=>?_⟩
  obtain ⟨q,hq,rfl⟩:=FR hy
  exact h4 q hq IZ
 ·rintro ⟨b',⟨y,hy,IZ,-⟩,-⟩
  obtain ⟨q,hq,rfl⟩:=FR hy
  rw [h.2.1 hf q hq] at IZ
  cases IZ
def lf (l:List ae) (one:Body):Sk (Body × Bool):=let yI:=({ at_:=0,sum:=0 }:bB); let uW:=({ kind:=0,at_:=0,n:=0 }:Fact); let lU:=({ kind:=0,n:=0,unit:=0 }:fc); let l8:=({ cD:=0,cL:=0,cE:=0,sum:=0,bh:=0,bp:=lU,day:=0,bn:=0,tE:=0,need:=0,iR:=0,flags:=0,parts:=0 }:dV); let bF:=({ kind:=0,fu:=0,cH:=0,part:=0,at_:=0,sum:=0,day:=0,bn:=0,form:=0 }:cd); let aC:=({ kind:=0,part:=0,fu:=0,for_:=0,cH:=0,sum:=0,day:=0,bn:=0,flags:=0 }:Sign); let yH:=({ kind:=0,bill:=0,index:=0,aw:=l8,sign:=aC,act:=bF,alter:=yI,fact:=uW }:Body);
 .bind true (fun b1=>SI l one b1.1 l.length b1.2)
 (.loop (default:Sum (Body × Bool) (Bool × Body)) (fun i2=>SI l one i2.1 i2.2.1 i2.2.2) (fun i2=>l.length - i2.2.1) ((false,0,yH):Bool × Nat × Body)
 (fun (i2:Bool × Nat × Body)=>⟨[(7,bv i2.1),(8,iv (i2.2.1:Int))],[(6,.box (i2.2.2.cells.map .d))]⟩) fun i2=>let eX:=(l.getD i2.2.1 default); let dm:=(cM (i2.2.1:Int) l.length);
 .lt 0 0 i2.2.1 l.length
 (.r 6 (.ak (.p dm) ((MW (eX.body) one).c)) fun x3 =>
 .br (!x3)
 (.nx 5 8 i2.2.1 (i2.1,i2.2.1+1,i2.2.2))
 (.r 7 (.wh i2.1 true (.p dm)) fun _ =>
 .br (i2.1&&(!(bZ (Body.cells (eX.body)) (Body.cells i2.2.2))))
 (.fin (.inl (.inl (yH,false))))
 (.r 10 (.p dm) fun _ =>
 .nx 5 8 i2.2.1 (true,i2.2.1+1,eX.body))))
 (.fin (.inl (.inr (i2.1,i2.2.2)))))
 (fun (b1:Bool × Body)=>⟨[(7,bv b1.1)],[(6,.box (b1.2.cells.map .d))]⟩) fun b1 =>
 .fin (b1.2,b1.1)
def O8 l one:=(lf l one).val
theorem FV (l:List ae) (one:Body):(lf l one).dj (fun (x:Body × Bool)=>UH l one x):=by
 unfold lf
 have st:∀ {i n:Nat},decide ((i:Int) < (n:Int))=true→i < n:=fun h=>by have h:=of_decide_eq_true h; omega
 refine ⟨⟨SI.start _ _ _,fun i2 h=>⟨fun hc=>fun x3 e3 _=>⟨fun h3=>fun _ _ _=>⟨h.skip (st hc) ?_,?_⟩,fun h3=>fun _ _ _=>⟨fun hf=>?_,fun hf=>fun _ _ _=>fun _ _ _=>⟨h.put (st hc) ?_ ?_,?_⟩⟩⟩,fun hc=>?_⟩⟩,fun b1 _ h1=>h1.done⟩
 all_goals first
  | (have e3:x3=fM (l.getD i2.2.1 default).body one:=e3)
  | skip
 ·rw [← e3]; simpa using h3
 ·have:=st hc; show l.length - (i2.2.1+1) < l.length - i2.2.1; omega
 ·simp only [Bool.and_eq_true,Bool.not_eq_true'] at hf
  refine ⟨fun h=>(by cases h),fun _=>h.abv (st hc) (by rw [← e3]; simpa using h3) hf.1 fun e=>?_⟩
  rw [Zs.2 e] at hf
  exact Bool.noConfusion hf.2
 ·rw [← e3]; simpa using h3
 ·simp only [Bool.and_eq_false_iff,Bool.not_eq_false'] at hf
  exact hf.imp id fun h=>Zs.1 h
 ·have:=st hc; show l.length - (i2.2.1+1) < l.length - i2.2.1; omega
 ·have hc:=of_decide_eq_false hc
  have h:SI l one i2.1 i2.2.1 i2.2.2:=h
  have e:i2.2.1=l.length:=Nat.le_antisymm h.1 (by omega)
  rw [e] at h
  exact h
theorem Hi (l:List ae) (one:Body):(lf l one).bO (fun _=>True):=by
 unfold lf
 have st:∀ {i n:Nat},decide ((i:Int) < (n:Int))=true→i < n:=fun h=>by have h:=of_decide_eq_true h; omega
 have ix:∀ {i n:Nat},i < n→cM (i:Int) n:=fun h=>⟨by omega,by omega⟩
 have w:∀ {i n:Nat},i < n→n≤maxLen→bI ((i:Int)+1)=((i+1:Nat):Int):=fun h h'=>by unfold maxLen at h'; rw [aD (by omega) (by omega)]; omega
 refine ⟨⟨SI.start _ _ _,fun i2 h hb=>⟨fun hc=>⟨⟨ix (st hc),trivial⟩,fun x3 e3 _=>⟨fun h3=>⟨trivial,fun _ _ _=>⟨w (st hc) hb,h.skip (st hc) ?_,?_⟩⟩,fun h3=>⟨fun _=>ix (st hc),fun _ _ _=>⟨fun hf=>trivial,fun hf=>⟨ix (st hc),fun _ _ _=>⟨trivial,fun _ _ _=>⟨w (st hc) hb,h.put (st hc) ?_ ?_,?_⟩⟩⟩⟩⟩⟩⟩,fun hc=>?_⟩⟩,fun b1 _ h1=>trivial⟩
 all_goals first
  | (have e3:x3=fM (l.getD i2.2.1 default).body one:=e3)
  | skip
 ·rw [← e3]; simpa using h3
 ·have:=st hc; show l.length - (i2.2.1+1) < l.length - i2.2.1; omega
 ·rw [← e3]; simpa using h3
 ·simp only [Bool.and_eq_false_iff,Bool.not_eq_false'] at hf
  exact hf.imp id fun h=>Zs.1 h
 ·have:=st hc; show l.length - (i2.2.1+1) < l.length - i2.2.1; omega
 ·have hc:=of_decide_eq_false hc
  have h:SI l one i2.1 i2.2.1 i2.2.2:=h
  have e:i2.2.1=l.length:=Nat.le_antisymm h.1 (by omega)
  rw [e] at h
  exact h
def mK l one:=kp tok mixed Tryz.func68 [lv ae.cells l,av one.cells] (fun x=>.il [av x.1.cells,bv x.2]) true (O8 l one) (u0 (Hi l one)) (FV l one)
def mM (f:aA) (b:Body):Sk (aA):=let aC:=({ kind:=0,part:=0,fu:=b.aw.cD,for_:=(-1),cH:=(-1),sum:=0,day:=b.aw.day,bn:=b.aw.bn,flags:=b.sign.flags }:Sign);
 .br (b.kind == 0)
 (.r 3 (.o [.dU (dw Sign.E [aC])]) fun _ =>
 .fin ({ bill:=b.aw,af:=[aC],aE:=[],bq:=[],facts:=[] }:aA))
 (.bind false (fun b1=>b1.length≤2000000)
 (.br (b.kind == 1)
 (.r 6 (.ak (.o [.dU (dw Sign.E ([]:List Sign))]) (.ak (.ak (.o [.dU (fo Sign.E ([]:List Sign) f.af)]) (.ak (.t (Sign.E.src f.af)) (.p (jH (([]:List Sign).length) f.af.length 72)))) (.ak (.o [.dU (dw Sign.E [b.sign])]) (.ak (.o [.dU (fo Sign.E (([]:List Sign)++f.af) [b.sign])]) (.ak (.t (Sign.E.jz [b.sign])) (.p (jH ((([]:List Sign)++f.af).length) [b.sign].length 72))))))) fun _ =>
 .fz 36 <|
 .fin (.inr ((([]:List Sign)++f.af)++[b.sign])))
 (.fin (.inr f.af)))
 (fun (b1:(List Sign))=>⟨[],[(6,.box (f.bill.cells.map .d++[lv Sign.cells b1,lv bB.cells f.aE,lv cd.cells f.bq,lv Fact.cells f.facts]))]⟩) fun b1 =>
 .bind false (fun b2=>b2.length≤2000000)
 (.br (b.kind == 3)
 (.r 8 (.ak (.o [.dU (dw bB.E ([]:List bB))]) (.ak (.ak (.o [.dU (fo bB.E ([]:List bB) f.aE)]) (.ak (.t (bB.E.src f.aE)) (.p (jH (([]:List bB).length) f.aE.length 16)))) (.ak (.o [.dU (dw bB.E [b.alter])]) (.ak (.o [.dU (fo bB.E (([]:List bB)++f.aE) [b.alter])]) (.ak (.t (bB.E.jz [b.alter])) (.p (jH ((([]:List bB)++f.aE).length) [b.alter].length 16))))))) fun _ =>
 .fz 48 <|
 .fin (.inr ((([]:List bB)++f.aE)++[b.alter])))
 (.fin (.inr f.aE)))
 (fun (b2:(List bB))=>⟨[],[(6,.box (f.bill.cells.map .d++[lv Sign.cells b1,lv bB.cells b2,lv cd.cells f.bq,lv Fact.cells f.facts]))]⟩) fun b2 =>
 .bind false (fun b3=>b3.length≤2000000)
 (.br (b.kind == 2)
 (.r 10 (.ak (.o [.dU (dw cd.E ([]:List cd))]) (.ak (.ak (.o [.dU (fo cd.E ([]:List cd) f.bq)]) (.ak (.t (cd.E.src f.bq)) (.p (jH (([]:List cd).length) f.bq.length 72)))) (.ak (.o [.dU (dw cd.E [b.act])]) (.ak (.o [.dU (fo cd.E (([]:List cd)++f.bq) [b.act])]) (.ak (.t (cd.E.jz [b.act])) (.p (jH ((([]:List cd)++f.bq).length) [b.act].length 72))))))) fun _ =>
 .fz 60 <|
 .fin (.inr ((([]:List cd)++f.bq)++[b.act])))
 (.fin (.inr f.bq)))
 (fun (b3:(List cd))=>⟨[],[(6,.box (f.bill.cells.map .d++[lv Sign.cells b1,lv bB.cells b2,lv cd.cells b3,lv Fact.cells f.facts]))]⟩) fun b3 =>
 .br (b.kind == 4)
 (.r 12 (.ak (.o [.dU (dw Fact.E ([]:List Fact))]) (.ak (.ak (.o [.dU (fo Fact.E ([]:List Fact) f.facts)]) (.ak (.t (Fact.E.src f.facts)) (.p (jH (([]:List Fact).length) f.facts.length 24)))) (.ak (.o [.dU (dw Fact.E [b.fact])]) (.ak (.o [.dU (fo Fact.E (([]:List Fact)++f.facts) [b.fact])]) (.ak (.t (Fact.E.jz [b.fact])) (.p (jH ((([]:List Fact)++f.facts).length) [b.fact].length 24))))))) fun _ =>
 .fin ({ f with af:=b1,aE:=b2,bq:=b3,facts:=(([]:List Fact)++f.facts)++[b.fact] }))
 (.fin ({ f with af:=b1,aE:=b2,bq:=b3 })))
def aW f b:=(mM f b).val
theorem J8 (f:aA) (b:Body) (hf:f.Small):(mM f b).bO (fun _=>True):=by
 simp only [aA.Small,ai.Small] at hf
 unfold mM
 try simp only [aA.Small,ai.Small]
 exact sH
def l4 f b:=kk tok mixed Tryz.func70 [av f.cells,av b.cells] (fun x=>av x.cells) false (mM f b) (aW f b) (J8 f b)
def wO (n:Int) (length:Int):Sk (Bool) :=
 .fin ((decide (n≥0))&&(decide (n < length)))
def UI n length:=(wO n length).val
theorem Bu (n:Int) (length:Int):UI n length=((decide (n≥0))&&(decide (n < length))):=rfl
theorem RL (n:Int) (length:Int):(wO n length).bO (fun _=>True):=by
 unfold wO
 exact DB
def mN n length:=kk tok mixed Tryz.func142 [iv n,iv length] (fun x=>bv x) true (wO n length) (UI n length) (u0 (RL n length))
def rJ (n:Int) (length:Int):Sk (Bool) :=
 .r 1 (.wh (n == (-1)) false ((mN n length).c)) fun x1 =>
 .fin ((n == (-1))||x1)
def UJ n length:=(rJ n length).val
theorem MX (n:Int) (length:Int):(rJ n length).bO (fun _=>True):=by
 unfold rJ
 try simp only [mN,Bu]
 exact AQ
def uB n length:=kk tok mixed Tryz.func143 [iv n,iv length] (fun x=>bv x) true (rJ n length) (UJ n length) (u0 (MX n length))
def pO (day:Int):Sk (Bool) :=
 .fin ((decide (day≥0))&&(decide (day≤100000)))
def Im day:=(pO day).val
theorem Ad (day:Int):Im day=((decide (day≥0))&&(decide (day≤100000))):=rfl
theorem J9 (day:Int):(pO day).bO (fun _=>True):=by
 unfold pO
 exact DB
def vT day:=kk tok mixed Tryz.func144 [iv day] (fun x=>bv x) true (pO day) (Im day) (u0 (J9 day))
def mO (b:dV):Sk (Bool):=let aC:=(b.bp.unit == 0);
 .br ((b.bp.kind == 0)||(b.bp.kind == 4))
 (.fin ((b.bp.n == 0)&&aC))
 (.br ((b.bp.kind == 1)||(b.bp.kind == 2))
 (.fin (((decide (b.bp.n≥1))&&(decide (b.bp.n≤400)))&&(aC||(b.bp.unit == 1))))
 (.fin ((((b.bp.kind == 3)&&(decide (b.bp.n≥b.day)))&&(decide (b.bp.n≤100000)))&&aC)))
def wP b:=(mO b).val
theorem Ka (b:dV):(mO b).bO (fun _=>True):=by
 unfold mO
 exact DB
def vU b:=kk tok mixed Tryz.func145 [av b.cells] (fun x=>bv x) true (mO b) (wP b) (u0 (Ka b))
def lg (r:ai) (from_:Int) (cH:Int):Sk (Int × Int) :=
 .bt
 (.loop (default:Sum (Int × Int) (Unit)) (fun i2=>i2≤r.aI.length) (fun i2=>r.aI.length - i2) (0:Nat)
 (fun (i2:Nat)=>⟨[(8,iv (i2:Int))],[]⟩) fun i2=>let bF:=(r.aI.getD i2 default); let aC:=(cM (i2:Int) r.aI.length);
 .lt 3 5 i2 r.aI.length
 (.r 4 (.ak (.p aC) (.wh ((bF.from_) == from_) true (.p aC))) fun _ =>
 .br (((bF.from_) == from_)&&((bF.cH) == cH))
 (.r 5 (.p aC) fun _ =>
 .fin (.inl (.inl (bF.days,0))))
 (.nx 3 8 i2 (i2+1)))
 (.fin (.inl (.inr ()))))
 (fun (_:Unit)=>⟨[],[]⟩) fun _ =>
 .fin (0,4)
def qJ r from_ cH:=(lg r from_ cH).val
theorem Hj (r:ai) (from_:Int) (cH:Int):(lg r from_ cH).bO (fun _=>True):=by
 unfold lg
 exact sH
def uC r from_ cH:=kk tok mixed Tryz.func146 [av r.cells,iv from_,iv cH] (fun x=>.il [iv x.1,iv x.2]) true (lg r from_ cH) (qJ r from_ cH) (u0 (Hj r from_ cH))
def Bv (a b:Int) (x:dc) (_:Unit):(Int × Int) ⊕ Unit:=bif (x.from_ == a)&&(x.cH == b) then .inl (x.days,0) else .inr ()
theorem MY (r:ai) (a b:Int):qJ r a b=mE r a b:=by
 have e1:qJ r a b=walk (Bv a b) (fun _=>(0,4)) r.aI ():=by
  simp only [qJ,lg,Sk.cQ,Sk.eV,Sk.fA,Sk.da,Sk.fR,Sk.iC,Sk.cg]
  refine (gS r.aI (fun s i=>i) (Bv a b) id _ (fun s i hi=>?_) (fun s=>?_) (by simp) ()).trans rfl
  ·rw [decide_eq_true (by omega),cond_true]
   unfold Bv
   cases (((r.aI.getD i default).from_ == a)&&((r.aI.getD i default).cH == b)) <;> rfl
  ·rw [decide_eq_false (by omega),cond_false]
 have e2:mE r a b=walk (Bv a b) (fun _=>(0,4)) r.aI ():=by
  simp only [mE,iY,Sk.cQ,Sk.eV,Sk.fA,Sk.da,Sk.fR,Sk.iC,Sk.cg]
  refine (gS r.aI (fun s i=>i) (Bv a b) id _ (fun s i hi=>?_) (fun s=>?_) (by simp) ()).trans rfl
  ·rw [decide_eq_true (by omega),cond_true]
   unfold Bv
   cases (((r.aI.getD i default).from_ == a)&&((r.aI.getD i default).cH == b)) <;> rfl
  ·rw [decide_eq_false (by omega),cond_false]
 rw [e1,e2]
def mP (r:ai) (b:dV):Sk (Int):=let lU:=((r.aL.length:Nat):Int); let eX:=((decide (b.flags < 0))||(decide (b.flags > 7))); let dm:=((decide (b.sum < 1))||(decide (b.sum > 1099511627776))); let aC:=((r.aQ.length:Nat):Int);
 .r 1 ((ru r).c) fun x1 =>
 .br (x1 != 0)
 (.fin x1)
 (.r 6 (.dep ((mN b.cD aC).c) fun x2=>.dep (.wh (!x2) false ((mN b.cL aC).c)) fun x3=>.dep (.wh ((!x2)||(!x3)) false ((uB b.cE aC).c)) fun x4=>let bF:=(((!x2)||(!x3))||(!x4)); .dep (.wh bF false ((uB b.need aC).c)) fun x5=>.dep (.wh (bF||(!x5)) false ((mN b.bh ((r.aM.length:Nat):Int)).c)) fun x6=>.dep (.wh ((bF||(!x5))||(!x6)) false ((mN b.bn lU).c)) fun x7=>.wh (((bF||(!x5))||(!x6))||(!x7)) false ((mN b.tE lU).c)) fun Cw =>
 .br (((((((!Cw.1)||(!Cw.2.1))||(!Cw.2.2.1))||(!Cw.2.2.2.1))||(!Cw.2.2.2.2.1))||(!Cw.2.2.2.2.2.1))||(!Cw.2.2.2.2.2.2))
 (.fin 1)
 (.r 8 (.wh dm false ((vT b.day).c)) fun x9 =>
 .br (((dm||(!x9))||(decide (b.iR < 0)))||(decide (b.iR > 1000)))
 (.fin 3)
 (.br ((decide (b.parts < 1))||(decide (b.parts > 4)))
 (.fin 15)
 (.r 12 (.wh (eX||((b.cE == (-1))&&((Cp .i64 b.flags 4) != 0))) false ((vU b).c)) fun OP =>
 .br ((eX||((b.cE == (-1))&&((Cp .i64 b.flags 4) != 0)))||(!OP))
 (.fin 2)
 (.br (b.bp.kind != 4)
 (.fin 0)
 (.r 16 ((uC r b.bn b.tE).c) fun JK =>
 .fin JK.2))))))
def Bw r b:=(mP r b).val
theorem Hk (r:ai) (b:dV):(mP r b).dj (fun (x:Int)=>x=0→mV r b):=by
 refine Sk.bM _ ?_
 unfold mP
 simp (maxSteps:=2000000) only [Sk.eO,Sk.db,reduceCtorEq,ON,kk,kp,vT,ru,uC,vU,mN,uB,Ad,Bu,forall_eq,ai.Jt,ai.jk,ai.oW,ai.ya,maxLen]
 all_goals (repeat' first | assumption | (apply And.intro) | (intro h))
 all_goals first | trivial | assumption | omega | ((try simp only [LN] at *) <;> first | omega | (refine (aD ?_ ?_).trans ?_ <;> omega) | (simp (disch:=omega) only [aD] at *; omega) | (grind) | (simp_all; done) | (simp_all; omega))
theorem Kb (r:ai) (b:dV):(mP r b).bO (fun _=>True):=by
 refine Sk.bP _ ?_
 unfold mP
 simp (maxSteps:=2000000) only [Sk.oV,Sk.db,reduceCtorEq,ON,kk,kp,vT,ru,uC,vU,mN,uB,Ad,Bu,forall_eq,ai.Jt,ai.jk,ai.oW,ai.ya,maxLen]
def rK r b:=kp tok mixed Tryz.func101 [av r.cells,av b.cells] (fun x=>iv x) true (Bw r b) (u0 (Kb r b)) (Hk r b)
def wQ (f:aA) (i:Int) (part:Int):Sk (Bool) :=
 .r 1 (.wh (i == 0) false (.p (cM i f.af.length))) fun _ =>
 .fin ((i == 0)||(((f.af.getD i.toNat default).part) == part))
def Kc f i part:=(wQ f i part).val
theorem RM (f:aA) (i:Int) (part:Int) (hs:i=0∨(0≤i∧i < (f.af.length:Int))):(wQ f i part).bO (fun _=>True):=by
 unfold wQ
 exact sH
def qK f i part:=kk tok mixed Tryz.func180 [av f.cells,iv i,iv part] (fun x=>bv x) true (wQ f i part) (Kc f i part) (RM f i part)
def ku (f:aA) (i:Int):Sk (Bool):=let aC:=(f.af.getD i.toNat default);
 .r 1 (.p (cM i f.af.length)) fun _ =>
 .r 2 (.dep ((aj (aC.for_) 0 (bI (i - 1))).c) fun x1=>.ak (.wh x1 true (.p (cM i f.af.length))) (.wh x1 true ((qK f (aC.for_) (aC.part)).c))) fun p3 =>
 .fin (p3.1&&p3.2)
def l5 f i:=(ku f i).val
theorem Hl (f:aA) (i:Int) (hP:(0≤i∧i < (f.af.length:Int))∧f.af.length≤40):(ku f i).dj (fun (x:Bool)=>x=true→0≤(f.af.getD i.toNat default).for_∧(f.af.getD i.toNat default).for_ < i):=by
 unfold ku
 try simp only [aj,qK,bu]
 exact U8
theorem FW (f:aA) (i:Int):(fun (x:Bool)=>((0≤i∧i < (f.af.length:Int))∧f.af.length≤40)→(x=true→0≤(f.af.getD i.toNat default).for_∧(f.af.getD i.toNat default).for_ < i)) (l5 f i):=fun hP=>have h:=Sk.cN _ (Hl f i hP); h
theorem Kd (f:aA) (i:Int) (hs:0≤i∧i < (f.af.length:Int)) (hn:f.af.length≤40):(ku f i).bO (fun _=>True):=by
 unfold ku
 try simp only [aj,qK,bu]
 exact AQ
def rL f i:=kk tok mixed Tryz.func179 [av f.cells,iv i] (fun x=>bv x) true (ku f i) (l5 f i) (u2 (Kd f i)) (fun (x:Bool)=>((0≤i∧i < (f.af.length:Int))∧f.af.length≤40)→(x=true→0≤(f.af.getD i.toNat default).for_∧(f.af.getD i.toNat default).for_ < i)) (FW f i)
def j5 (r:ai) (f:aA) (i:Int):Sk (Bool):=let yH:=((rL f i).c); let aC:=(f.af.getD i.toNat default); let Jv:=((aC.fu) == f.bill.cL); let yI:=((i == 0)||((aC.cH) != (-1))); let uW:=((aC.for_) == (-1)); let l8:=(cM (aC.for_) f.af.length); let lU:=((yI||((aC.sum) != 0))||((aC.flags) != 0)); let eX:=((decide (i > 0))&&uW); let bF:=((f.af.getD ((aC.for_).toNat) default).kind);
 .r 1 (.p (cM i f.af.length)) fun _ =>
 .r 2 ((aj (aC.sum) 1 1099511627776).c) fun x1=>let dm:=(((yI||(!x1))||((aC.flags) != 0))||Jv);
 .br ((aC.kind) == 0)
 (.fin ((((((((i == 0)&&((aC.fu) == f.bill.cD))&&uW)&&((aC.cH) == (-1)))&&((aC.sum) == 0))&&(((aC.flags) == 0)||((aC.flags) == 1)))&&((aC.part) == 0))&&((aC.bn) == f.bill.bn)))
 (.br ((aC.kind) == 1)
 (.fin ((((((decide (i > 0))&&Jv)&&uW)&&((aC.cH) == (-1)))&&x1)&&((aC.flags) == 0)))
 (.br ((aC.kind) == 2)
 (.r 9 (.ak (.p ((2:Int)≠0)) (.p ((2:Int)≠0))) fun _ =>
 .r 10 (.ak (.p ((4:Int)≠0)) (.p ((2:Int)≠0))) fun _ =>
 .r 11 (.dep (.wh eX true ((aj (aC.cH) (-1) (bI (((r.aQ.length:Nat):Int) - 1))).c)) fun x2=>.wh ((eX&&x2)&&((aC.sum) == 0)) true ((aj (aC.flags) 0 7).c)) fun p4 =>
 .fin ((((eX&&p4.1)&&((aC.sum) == 0))&&p4.2)&&(!((((bI ((aC.flags).tdiv 2)).tmod 2) == 1)&&(((bI ((aC.flags).tdiv 4)).tmod 2) == 1)))))
 (.br ((aC.kind) == 3)
 (.r 13 (.wh lU false yH) fun x5 =>
 .br (lU||(!x5))
 (.fin false)
 (.r 15 (.p l8) fun _ =>
 .fin (bF != 3)))
 (.br ((aC.kind) == 4)
 (.r 17 (.wh dm false yH) fun x6 =>
 .br (dm||(!x6))
 (.fin false)
 (.r 19 (.ak (.p l8) (.wh (bF == 0) false (.p l8))) fun _ =>
 .fin ((bF == 0)||(bF == 2))))
 (.fin false)))))
def vV r f i:=(j5 r f i).val
theorem Ke (r:ai) (f:aA) (i:Int) (hP:(0≤i∧i < (f.af.length:Int))∧f.af.length≤40):(j5 r f i).dj (fun (x:Bool)=>x=true→BX f i.toNat):=by
 unfold j5
 try simp only [aj,rL,bu]
 exact U8
theorem Hm (r:ai) (f:aA) (i:Int):(fun (x:Bool)=>((0≤i∧i < (f.af.length:Int))∧f.af.length≤40)→(x=true→BX f i.toNat)) (vV r f i):=fun hP=>have h:=Sk.cN _ (Ke r f i hP); h
theorem MZ (r:ai) (f:aA) (i:Int) (hs:0≤i∧i < (f.af.length:Int)) (hn:f.af.length≤40):(j5 r f i).bO (fun _=>True):=by
 unfold j5
 try simp only [aj,rL,bu]
 exact AQ
def uD r f i:=kk tok mixed Tryz.func147 [av r.cells,av f.cells,iv i] (fun x=>bv x) true (j5 r f i) (vV r f i) (u2 (MZ r f i)) (fun (x:Bool)=>((0≤i∧i < (f.af.length:Int))∧f.af.length≤40)→(x=true→BX f i.toNat)) (Hm r f i)
def iJ (r:ai) (f:aA) (i:Int):Sk (Int):=let aC:=(f.af.getD i.toNat default);
 .r 1 (.p (cM i f.af.length)) fun _ =>
 .r 2 ((aj (aC.part) 0 (bI (f.bill.parts - 1))).c) fun x1 =>
 .br (!x1)
 (.fin 15)
 (.r 4 (.dep ((aj (aC.fu) 0 (bI (((r.aQ.length:Nat):Int) - 1))).c) fun x2=>.wh (!x2) false ((aj (aC.bn) 0 (bI (((r.aL.length:Nat):Int) - 1))).c)) fun p8 =>
 .br ((!p8.1)||(!p8.2))
 (.fin 1)
 (.br (((i == 0)&&((aC.day) != f.bill.day))||(decide ((aC.day) > 100000)))
 (.fin 13)
 (.bind false (fun b4=>i > 0→(f.af.getD (bI (i - 1)).toNat default).day≤aC.day)
 (.br (decide (i > 0))
 (.r 9 (.p (cM (bI (i - 1)) f.af.length)) fun _ =>
 .br (decide ((aC.day) < ((f.af.getD ((bI (i - 1)).toNat) default).day)))
 (.fin (.inl 13))
 (.fin (.inr ())))
 (.fin (.inr ())))
 (fun (_:Unit)=>⟨[],[]⟩) fun _ =>
 .r 11 ((uD r f i).c) fun x5 =>
 .br (!x5)
 (.fin 14)
 (.bt
 (.loop (default:Sum (Int) (Unit)) (fun i7=>0≤i7∧i7≤i) (fun i7=>(i - i7).toNat) (0:Int)
 (fun (i7:Int)=>⟨[(8,iv i7)],[]⟩) fun i7=>let bF:=(f.af.getD i7.toNat default);
 .br ((decide (i7 < i))&&((aC.kind) == 1))
 (.r 16 (.ak (.p (cM i7 f.af.length)) (.wh ((bF.kind) == 1) true (.p (cM i7 f.af.length)))) fun _ =>
 .br (((bF.kind) == 1)&&((bF.part) == (aC.part)))
 (.fin (.inl (.inl 5)))
 (.fin (.inr (bI (i7+1)))))
 (.fin (.inl (.inr ()))))
 (fun (_:Unit)=>⟨[],[]⟩) fun _ =>
 .fin 0))))
def pV r f i:=(iJ r f i).val
theorem Hn (r:ai) (f:aA) (i:Int) (hP:(0≤i∧i < (f.af.length:Int))∧f.af.length≤40∧r.aQ.length≤200∧mV r f.bill):(iJ r f i).dj (fun (x:Int)=>x=0→oE r f i.toNat):=by
 refine Sk.bM _ ?_
 unfold iJ
 simp only [Sk.eO,Sk.db,reduceCtorEq,ON,kk,kp,aj,uD,bu,forall_eq,maxLen]
 intro _
 obtain ⟨hi,hn,hr,hB⟩:=hP
 have hB2:=hB.2.2.2.1
 refine ⟨fun _ h=>absurd h (by decide),fun h1=>⟨fun _ h=>absurd h (by decide),fun h2=>⟨fun _ h=>absurd h (by decide),fun h3=>⟨⟨fun h4 _=>⟨fun _ h=>absurd h (by decide),fun h5 _=>by simpa using h5⟩,fun h4 h=>?_⟩,fun _ _ h6 hF=>⟨fun _ h=>absurd h (by decide),fun h7=>⟨⟨⟨by omega,by omega⟩,fun k hk hc _=>⟨fun _ h=>absurd h (by decide),fun _=>?_⟩⟩,fun _=>?_⟩⟩⟩⟩⟩⟩
 ·simp only [LN] at h4; omega
 ·simp only [LN] at hc
  rw [aD (by omega) (by omega)]
  omega
 ·have hF:=hF ⟨hi,hn⟩ (by simpa using h7)
  simp only [LN] at h1 h2 h3
  rw [aD (n:=f.bill.parts - 1) (by omega) (by omega)] at h1
  rw [aD (n:=(r.aQ.length:Int) - 1) (by omega) (by omega)] at h2
  refine ⟨by omega,fun h0=>?_,by omega,fun h0=>?_,by omega,hF⟩
  ·have:=h6 (by omega)
   rw [aD (by omega) (by omega),show (i - 1).toNat=i.toNat - 1 by omega] at this
   exact this
  ·rcases h3.1 with h | h
   ·omega
   ·exact h
theorem FX (r:ai) (f:aA) (i:Int):(fun (x:Int)=>((0≤i∧i < (f.af.length:Int))∧f.af.length≤40∧r.aQ.length≤200∧mV r f.bill)→(x=0→oE r f i.toNat)) (pV r f i):=fun hP=>have h:=Sk.cN _ (Hn r f i hP); h
theorem Kf (r:ai) (f:aA) (i:Int) (hs:0≤i∧i < (f.af.length:Int)) (hn:f.af.length≤40):(iJ r f i).bO (fun _=>True):=by
 unfold iJ
 try simp only [aj,uD,bu]
 exact AQ
def rM r f i:=kk tok mixed Tryz.func102 [av r.cells,av f.cells,iv i] (fun x=>iv x) true (iJ r f i) (pV r f i) (u2 (Kf r f i)) (fun (x:Int)=>((0≤i∧i < (f.af.length:Int))∧f.af.length≤40∧r.aQ.length≤200∧mV r f.bill)→(x=0→oE r f i.toNat)) (FX r f i)
def iK (r:ai) (f:aA) (a:cd):Sk (Bool):=let dm:=(f.af.getD a.at_.toNat default); let bF:=(bI (((r.aQ.length:Nat):Int) - 1));
 .r 1 ((aj a.fu 0 bF).c) fun x1 =>
 .br (!x1)
 (.fin false)
 (.r 3 ((aj a.cH 0 bF).c) fun x2=>let aC:=(x2&&(a.at_ == (-1)));
 .r 4 ((aj a.sum 0 1099511627776).c) fun x3 =>
 .r 5 ((aj a.at_ 0 (bI (((f.af.length:Nat):Int) - 1))).c) fun x4 =>
 .bind false (fun b5=>b5=true→0≤a.at_∧a.at_ < (f.af.length:Int))
 (.br x4
 (.r 7 ((qK f a.at_ a.part).c) fun x6 =>
 .fin (.inr x6))
 (.fin (.inr x4)))
 (fun (b5:Bool)=>⟨[(9,bv b5)],[]⟩) fun b5 =>
 .bind false (fun b7=>b7=true→(0≤a.at_∧a.at_ < (f.af.length:Int))∧dm.fu=a.fu)
 (.br b5
 (.r 10 (.p (cM a.at_ f.af.length)) fun _ =>
 .fin (.inr ((dm.fu) == a.fu)))
 (.fin (.inr false)))
 (fun (b7:Bool)=>⟨[(10,bv b7)],[]⟩) fun b7 =>
 .bind false (fun _=>True)
 (.br (a.kind == 0)
 (.fin (.inr (a.kind == 0)))
 (.br (a.kind == 1)
 (.fin (.inr (a.kind == 1)))
 (.fin (.inr (a.kind == 2)))))
 (fun (b8:Bool)=>⟨[(56,bv b8)],[]⟩) fun b8 =>
 .br b8
 (.fin ((aC&&(a.sum == 0))&&(a.form == 0)))
 (.bind false (fun _=>True)
 (.br (a.kind == 3)
 (.fin (.inr (a.kind == 3)))
 (.fin (.inr (a.kind == 5))))
 (fun (b9:Bool)=>⟨[(76,bv b9)],[]⟩) fun b9 =>
 .br b9
 (.fin ((aC&&x3)&&(a.form == 0)))
 (.br (a.kind == 4)
 (.fin ((aC&&x3)&&((a.form == 0)||(a.form == 1))))
 (.br (a.kind == 6)
 (.fin ((((x2&&b7)&&x3)&&(decide (a.sum > 0)))&&(a.form == 0)))
 (.br (a.kind == 9)
 (.fin ((((a.cH == (-1))&&b7)&&(a.sum == 0))&&(a.form == 0)))
 (.bind false (fun _=>True)
 (.br (a.kind == 7)
 (.fin (.inr (a.kind == 7)))
 (.fin (.inr (a.kind == 8))))
 (fun (b10:Bool)=>⟨[(151,bv b10)],[]⟩) fun b10 =>
 .br b10
 (.fin ((((a.cH == (-1))&&b5)&&(a.sum == 0))&&(a.form == 0)))
 (.fin false)))))))
def wR r f a:=(iK r f a).val
theorem Ho (r:ai) (f:aA) (a:cd) (hP:f.af.length≤40):(iK r f a).dj (fun (x:Bool)=>x=true→uV a.sum∧a.at_ < (f.af.length:Int)∧(a.kind=6→0≤a.at_∧(f.af.getD a.at_.toNat default).fu=a.fu)):=by
 unfold iK
 try simp only [aj,qK,bu]
 exact U8
theorem FY (r:ai) (f:aA) (a:cd):(fun (x:Bool)=>(f.af.length≤40)→(x=true→uV a.sum∧a.at_ < (f.af.length:Int)∧(a.kind=6→0≤a.at_∧(f.af.getD a.at_.toNat default).fu=a.fu))) (wR r f a):=fun hP=>have h:=Sk.cN _ (Ho r f a hP); h
theorem Kg (r:ai) (f:aA) (a:cd) (hn:f.af.length≤40):(iK r f a).bO (fun _=>True):=by
 unfold iK
 try simp only [aj,qK,bu]
 exact AQ
def rN r f a:=kk tok mixed Tryz.func148 [av r.cells,av f.cells,av a.cells] (fun x=>bv x) true (iK r f a) (wR r f a) (Kg r f a) (fun (x:Bool)=>(f.af.length≤40)→(x=true→uV a.sum∧a.at_ < (f.af.length:Int)∧(a.kind=6→0≤a.at_∧(f.af.getD a.at_.toNat default).fu=a.fu))) (FY r f a)
def j6 (r:ai) (f:aA) (i:Int):Sk (Int):=let aC:=(f.bq.getD i.toNat default);
 .r 1 (.p (cM i f.bq.length)) fun _ =>
 .r 2 ((aj (aC.part) 0 (bI (f.bill.parts - 1))).c) fun x1 =>
 .br (!x1)
 (.fin 15)
 (.r 4 (.dep ((aj (aC.bn) 0 (bI (((r.aL.length:Nat):Int) - 1))).c) fun x2=>.wh (!x2) false ((aj (aC.kind) 0 9).c)) fun p6 =>
 .br ((!p6.1)||(!p6.2))
 (.fin 1)
 (.r 6 ((rN r f aC).c) fun x4 =>
 .br (!x4)
 (.fin 14)
 (.br ((decide ((aC.day) < f.bill.day))||(decide ((aC.day) > 100000)))
 (.fin 13)
 (.bind false (fun b5=>0≤aC.at_→(f.af.getD aC.at_.toNat default).day≤aC.day)
 (.br (decide ((aC.at_)≥0))
 (.r 11 (.p (cM (aC.at_) f.af.length)) fun _ =>
 .br (decide ((aC.day) < ((f.af.getD ((aC.at_).toNat) default).day)))
 (.fin (.inl 13))
 (.fin (.inr ())))
 (.fin (.inr ())))
 (fun (_:Unit)=>⟨[],[]⟩) fun _ =>
 .br (decide (i > 0))
 (.r 14 (.p (cM (bI (i - 1)) f.bq.length)) fun _ =>
 .br (decide ((aC.day) < ((f.bq.getD ((bI (i - 1)).toNat) default).day)))
 (.fin 13)
 (.fin 0))
 (.fin 0)))))
def tw r f i:=(j6 r f i).val
theorem Kh (r:ai) (f:aA) (i:Int) (hP:(0≤i∧i < (f.bq.length:Int))∧f.af.length≤40∧f.bq.length≤100):(j6 r f i).dj (fun (x:Int)=>x=0→nk f i.toNat):=by
 refine Sk.bM _ ?_
 unfold j6
 simp only [Sk.eO,Sk.db,reduceCtorEq,ON,kk,kp,aj,rN,bu,forall_eq,maxLen]
 intro _
 refine ⟨fun _ h=>absurd h (by decide),fun h1=>⟨fun _ h=>absurd h (by decide),fun h2 hA=>⟨fun _ h=>absurd h (by decide),fun h3=>⟨fun _ h=>absurd h (by decide),fun h4=>⟨⟨fun _ _=>⟨fun _ h=>absurd h (by decide),fun hd _=>by simp only [LN] at hd; exact hd⟩,fun h0 h=>by simp only [LN] at h0; omega⟩,fun _ _ abw=>⟨fun h5 _=>⟨fun _ h=>absurd h (by decide),fun h6=>?_⟩,fun h5=>?_⟩⟩⟩⟩⟩⟩
 all_goals have hA:=hA hP.2.1 (by simpa using h3)
 all_goals simp only [LN] at h4 h5
 ·simp only [LN] at h6
  rw [aD (by omega) (by omega),show (i - 1).toNat=i.toNat - 1 by omega] at h6
  exact ⟨hA.1,by omega,fun _=>h6,fun hk=>⟨⟨(hA.2.2 hk).1,hA.2.1⟩,abw (hA.2.2 hk).1,(hA.2.2 hk).2⟩⟩
 ·exact ⟨hA.1,by omega,fun h=>by omega,fun hk=>⟨⟨(hA.2.2 hk).1,hA.2.1⟩,abw (hA.2.2 hk).1,(hA.2.2 hk).2⟩⟩
theorem Hp (r:ai) (f:aA) (i:Int):(fun (x:Int)=>((0≤i∧i < (f.bq.length:Int))∧f.af.length≤40∧f.bq.length≤100)→(x=0→nk f i.toNat)) (tw r f i):=fun hP=>have h:=Sk.cN _ (Kh r f i hP); h
theorem M0 (r:ai) (f:aA) (i:Int) (hs:0≤i∧i < (f.bq.length:Int)) (hn:f.af.length≤40) (ha:f.bq.length≤100):(j6 r f i).bO (fun _=>True):=by
 unfold j6
 try simp only [aj,rN,bu]
 exact AQ
def uE r f i:=kk tok mixed Tryz.func103 [av r.cells,av f.cells,iv i] (fun x=>iv x) true (j6 r f i) (tw r f i) (u3 (M0 r f i)) (fun (x:Int)=>((0≤i∧i < (f.bq.length:Int))∧f.af.length≤40∧f.bq.length≤100)→(x=0→nk f i.toNat)) (Hp r f i)
def mQ (f:aA) (i:Int):Sk (Int):=let bF:=(f.facts.getD ((bI (i - 1)).toNat) default); let aC:=(f.facts.getD i.toNat default);
 .r 1 (.p (cM i f.facts.length)) fun _ =>
 .r 2 (.dep ((aj (aC.kind) 0 4).c) fun x1=>.dep (.wh (!x1) false ((aj (aC.at_) 0 (bI (((f.af.length:Nat):Int) - 1))).c)) fun x2=>.wh ((!x1)||(!x2)) false ((aj (aC.n) 0 1).c)) fun p4 =>
 .br (((!p4.1)||(!p4.2.1))||(!p4.2.2))
 (.fin 1)
 (.br (decide (i > 0))
 (.r 5 (.p (cM (bI (i - 1)) f.facts.length)) fun _ =>
 .br ((decide ((bF.at_) > (aC.at_)))||(((bF.at_) == (aC.at_))&&(decide ((bF.kind)≥(aC.kind)))))
 (.fin 5)
 (.fin 0))
 (.fin 0))
def tz f i:=(mQ f i).val
theorem Ki (f:aA) (i:Int) (hs:0≤i∧i < (f.facts.length:Int)) (ha:f.facts.length≤200):(mQ f i).bO (fun _=>True):=by
 unfold mQ
 try simp only [aj,bu]
 exact AQ
def rO f i:=kk tok mixed Tryz.func104 [av f.cells,iv i] (fun x=>iv x) true (mQ f i) (tz f i) (u2 (Ki f i))
def iL (r:ai) (f:aA):Sk (Int):=let lU:=((f.bq.length:Nat):Int); let eX:=((f.facts.length:Nat):Int); let dm:=((f.aE.length:Nat):Int); let bF:=((f.af.length:Nat):Int);
 .br ((((decide (bF > 40))||(decide (dm > 4)))||(decide (lU > 100)))||(decide (eX > 200)))
 (.fin 6)
 (.r 3 ((rK r f.bill).c) fun x1 =>
 .bind false (fun b2=>b2=0→mV r f.bill∧f.af.length≠0)
 (.br ((x1 == 0)&&(bF == 0))
 (.fin (.inr 14))
 (.fin (.inr x1)))
 (fun (b2:Int)=>⟨[(5,iv b2)],[]⟩) fun b2 =>
 .bind true (fun b3=>b3=0→mV r f.bill∧f.af.length≠0∧(r.aQ.length≤200→(∀ q,q < f.af.length→oE r f q)))
 (.loop (default:Sum (Int) (Int)) (fun i4=>i4.2≤f.af.length∧(i4.1=0→mV r f.bill∧f.af.length≠0∧(r.aQ.length≤200→(∀ q,q < i4.2→oE r f q)))) (fun i4=>f.af.length - i4.2) ((b2,0):Int × Nat)
 (fun (i4:Int × Nat)=>⟨[(5,iv i4.1),(6,iv (i4.2:Int))],[]⟩) fun i4 =>
 .DJ 3 15 f.af.length <|
 .br ((decide ((i4.2:Int) < bF))&&(i4.1 == 0))
 (.r 9 ((rM r f (i4.2:Int)).c) fun x5 =>
 .nx 8 6 i4.2 (x5,i4.2+1))
 (.fin (.inl (.inr i4.1))))
 (fun (b3:Int)=>⟨[(5,iv b3)],[]⟩) fun b3 =>
 .bind true (fun b6=>b6=0→mV r f.bill∧f.af.length≠0∧(r.aQ.length≤200→(∀ q,q < f.af.length→oE r f q))∧(∀ q,q < f.aE.length→uV (f.aE.getD q default).sum))
 (.loop (default:Sum (Int) (Int)) (fun i7=>i7.2≤f.aE.length∧(i7.1=0→mV r f.bill∧f.af.length≠0∧(r.aQ.length≤200→(∀ q,q < f.af.length→oE r f q))∧(∀ q,q < i7.2→uV (f.aE.getD q default).sum))) (fun i7=>f.aE.length - i7.2) ((b3,0):Int × Nat)
 (fun (i7:Int × Nat)=>⟨[(5,iv i7.1),(7,iv (i7.2:Int))],[]⟩) fun i7=>let l8:=(f.aE.getD i7.2 default); let aC:=(i7.2:Int);
 .DJ 3 16 f.aE.length <|
 .br ((decide (aC < dm))&&(i7.1 == 0))
 (.bind false (fun _=>True)
 (.br (decide (aC > 0))
 (.r 15 (.p (cM (bI (aC - 1)) f.aE.length)) fun _ =>
 .fin (.inr (bI (((f.aE.getD ((bI (aC - 1)).toNat) default).at_)+1))))
 (.fin (.inr 1)))
 (fun (b8:Int)=>⟨[(8,iv b8)],[]⟩) fun b8 =>
 .r 16 (.ak (.p (cM aC f.aE.length)) ((aj (l8.at_) b8 bF).c)) fun x9 =>
 .br (!x9)
 (.nx 12 7 i7.2 (1,i7.2+1))
 (.r 18 (.ak (.p (cM aC f.aE.length)) ((aj (l8.sum) 1 1099511627776).c)) fun OP =>
 .br (!OP)
 (.nx 12 7 i7.2 (3,i7.2+1))
 (.nx 12 7 i7.2 (i7.1,i7.2+1))))
 (.fin (.inl (.inr i7.1))))
 (fun (b6:Int)=>⟨[(5,iv b6)],[]⟩) fun b6 =>
 .bind true (fun Zt=>Zt=0→mV r f.bill∧f.af.length≠0∧(r.aQ.length≤200→(∀ q,q < f.af.length→oE r f q))∧(∀ q,q < f.aE.length→uV (f.aE.getD q default).sum)∧(∀ q,q < f.bq.length→nk f q))
 (.loop (default:Sum (Int) (Int)) (fun i12=>i12.2≤f.bq.length∧(i12.1=0→mV r f.bill∧f.af.length≠0∧(r.aQ.length≤200→(∀ q,q < f.af.length→oE r f q))∧(∀ q,q < f.aE.length→uV (f.aE.getD q default).sum)∧(∀ q,q < i12.2→nk f q))) (fun i12=>f.bq.length - i12.2) ((b6,0):Int × Nat)
 (fun (i12:Int × Nat)=>⟨[(5,iv i12.1),(9,iv (i12.2:Int))],[]⟩) fun i12 =>
 .DJ 3 17 f.bq.length <|
 .br ((decide ((i12.2:Int) < lU))&&(i12.1 == 0))
 (.r 23 ((uE r f (i12.2:Int)).c) fun Ze =>
 .nx 22 9 i12.2 (Ze,i12.2+1))
 (.fin (.inl (.inr i12.1))))
 (fun (Zt:Int)=>⟨[(5,iv Zt)],[]⟩) fun Zt =>
 .bind true (fun Qc=>Qc=0→mV r f.bill∧f.af.length≠0∧(r.aQ.length≤200→(∀ q,q < f.af.length→oE r f q))∧(∀ q,q < f.aE.length→uV (f.aE.getD q default).sum)∧(∀ q,q < f.bq.length→nk f q))
 (.loop (default:Sum (Int) (Int)) (fun i15=>i15.2≤f.facts.length∧(i15.1=0→mV r f.bill∧f.af.length≠0∧(r.aQ.length≤200→(∀ q,q < f.af.length→oE r f q))∧(∀ q,q < f.aE.length→uV (f.aE.getD q default).sum)∧(∀ q,q < f.bq.length→nk f q))) (fun i15=>f.facts.length - i15.2) ((Zt,0):Int × Nat)
 (fun (i15:Int × Nat)=>⟨[(5,iv i15.1),(10,iv (i15.2:Int))],[]⟩) fun i15 =>
 .DJ 3 18 f.facts.length <|
 .br ((decide ((i15.2:Int) < eX))&&(i15.1 == 0))
 (.r 27 ((rO f (i15.2:Int)).c) fun Mn =>
 .nx 26 10 i15.2 (Mn,i15.2+1))
 (.fin (.inl (.inr i15.1))))
 (fun (Qc:Int)=>⟨[(5,iv Qc)],[]⟩) fun Qc =>
 .fin Qc)
def bL r f:=(iL r f).val
theorem Hq (r:ai) (f:aA) (hP:r.aQ.length≤200):(iL r f).dj (fun (x:Int)=>x=0→AU r f):=by
 refine Sk.bM _ ?_
 unfold iL
 simp only [Sk.eO,Sk.db,reduceCtorEq,ON,kk,kp,aj,rK,uE,rO,rM,bu,forall_eq,maxLen]
 have ext:∀ {P:Nat→Prop} {i:Nat},(∀ q,q < i→P q)→P i→∀ q,q < i+1→P q:=fun h h2 q hq=>(Nat.lt_succ_iff_lt_or_eq.1 hq).elim (h q) (fun e=>e ▸ h2)
 refine ⟨fun _ h=>absurd h (by decide),fun hb hB=>?_⟩
 simp only [LN] at hb
 refine ⟨⟨fun _ h=>absurd h (by decide),fun h0 h=>⟨hB h,fun e=>?_⟩⟩,fun b1 _ Ck=>⟨⟨⟨Nat.zero_le _,fun h=>⟨(Ck h).1,(Ck h).2,fun _ q hq=>absurd hq (by omega)⟩⟩,fun i hi=>⟨fun hc hs _=>?_,fun hc h=>?_⟩⟩,fun b2 tD=>⟨⟨⟨Nat.zero_le _,fun h=>⟨(tD h).1,(tD h).2.1,(tD h).2.2,fun q hq=>absurd hq (by omega)⟩⟩,fun i hi=>⟨fun hc b _=>⟨fun _ _=>?_,fun _=>⟨fun _ _=>?_,fun hs _=>?_⟩⟩,fun hc h=>?_⟩⟩,fun b3 uI=>⟨⟨⟨Nat.zero_le _,fun h=>⟨(uI h).1,(uI h).2.1,(uI h).2.2.1,(uI h).2.2.2,fun q hq=>absurd hq (by omega)⟩⟩,fun i hi=>⟨fun hc hs _=>?_,fun hc h=>?_⟩⟩,fun b4 Va=>⟨⟨⟨Nat.zero_le _,Va⟩,fun i hi=>⟨fun hc _=>?_,fun _ h=>hi.2 h⟩⟩,fun b5 hb5 h=>?_⟩⟩⟩⟩⟩
 ·simp [e,h] at h0
 ·simp only [LN] at hc
  obtain ⟨a1,a2,a3⟩:=hi.2 hc.2
  exact ⟨⟨by omega,fun h=>⟨a1,a2,fun hr=>ext (a3 hr) (hs ⟨⟨by omega,by omega⟩,by omega,hr,a1⟩ h)⟩⟩,by omega⟩
 ·simp only [LN] at hc
  have e:i.2=f.af.length:=by omega
  exact e ▸ hi.2 h
 ·simp only [LN] at hc
  exact ⟨⟨by omega,fun h=>absurd h (by decide)⟩,by omega⟩
 ·simp only [LN] at hc
  exact ⟨⟨by omega,fun h=>absurd h (by decide)⟩,by omega⟩
 ·simp only [LN] at hc hs
  obtain ⟨a1,a2,a3,a4⟩:=hi.2 hc.2
  exact ⟨⟨by omega,fun h=>⟨a1,a2,a3,ext a4 ⟨by omega,by omega⟩⟩⟩,by omega⟩
 ·simp only [LN] at hc
  have e:i.2=f.aE.length:=by omega
  exact e ▸ hi.2 h
 ·simp only [LN] at hc
  obtain ⟨a1,a2,a3,a4,a5⟩:=hi.2 hc.2
  exact ⟨⟨by omega,fun h=>⟨a1,a2,a3,a4,ext a5 (hs ⟨⟨by omega,by omega⟩,by omega,by omega⟩ h)⟩⟩,by omega⟩
 ·simp only [LN] at hc
  have e:i.2=f.bq.length:=by omega
  exact e ▸ hi.2 h
 ·simp only [LN] at hc
  exact ⟨⟨by omega,fun _=>hi.2 hc.2⟩,by omega⟩
 ·obtain ⟨a1,a2,a3,a4,a5⟩:=hb5 h
  exact ⟨a1,⟨by omega,a2,by omega,by omega,by omega⟩,a3 hP,a4,a5⟩
theorem FZ (r:ai) (f:aA):(fun (x:Int)=>(r.aQ.length≤200)→(x=0→AU r f)) (bL r f):=fun hP=>have h:=Sk.cN _ (Hq r f hP); h
theorem Kj (r:ai) (f:aA):(iL r f).bO (fun _=>True):=by
 refine Sk.bP _ ?_
 unfold iL
 simp only [Sk.oV,Sk.db,reduceCtorEq,ON,kk,kp,aj,rK,uE,rO,rM,bu,forall_eq,maxLen]
 have ext:∀ {P:Nat→Prop} {i:Nat},(∀ q,q < i→P q)→P i→∀ q,q < i+1→P q:=fun h h2 q hq=>(Nat.lt_succ_iff_lt_or_eq.1 hq).elim (h q) (fun e=>e ▸ h2)
 have w1:∀ i n:Nat,i < n→n≤200→bI ((i:Int)+1)=((i+1:Nat):Int):=fun i n h h2=>(aD (by omega) (by omega)).trans (by omega)
 refine fun hb hB=>?_
 simp only [LN] at hb
 refine ⟨⟨fun _ h=>absurd h (by decide),fun h0 h=>⟨hB h,fun e=>?_⟩⟩,fun b1 _ Ck=>⟨⟨⟨Nat.zero_le _,fun h=>⟨(Ck h).1,(Ck h).2,fun _ q hq=>absurd hq (by omega)⟩⟩,fun i hi hm=>⟨fun hc=>⟨?_,fun hs _=>⟨?_,?_⟩⟩,fun hc h=>?_⟩⟩,fun b2 tD=>⟨⟨⟨Nat.zero_le _,fun h=>⟨(tD h).1,(tD h).2.1,(tD h).2.2,fun q hq=>absurd hq (by omega)⟩⟩,fun i hi hm=>⟨fun hc=>⟨fun h2=>?_,fun b _=>⟨?_,fun _ _=>⟨?_,?_⟩,fun _=>⟨?_,fun _ _=>⟨?_,?_⟩,fun hs _=>⟨?_,?_⟩⟩⟩⟩,fun hc h=>?_⟩⟩,fun b3 uI=>⟨⟨⟨Nat.zero_le _,fun h=>⟨(uI h).1,(uI h).2.1,(uI h).2.2.1,(uI h).2.2.2,fun q hq=>absurd hq (by omega)⟩⟩,fun i hi hm=>⟨fun hc=>⟨?_,fun hs _=>⟨?_,?_⟩⟩,fun hc h=>?_⟩⟩,fun b4 Va=>⟨⟨Nat.zero_le _,Va⟩,fun i hi hm=>⟨fun hc=>⟨?_,fun _=>⟨?_,?_⟩⟩,fun _ h=>hi.2 h⟩⟩⟩⟩⟩⟩
 ·simp [e,h] at h0
 all_goals simp only [LN] at hc
 ·exact ⟨⟨by omega,by omega⟩,by omega⟩
 ·exact w1 _ _ (by omega) (show f.af.length≤200 from by omega)
 ·obtain ⟨a1,a2,a3⟩:=hi.2 hc.2
  exact ⟨⟨by omega,fun h=>⟨a1,a2,fun hr=>ext (a3 hr) (hs ⟨⟨by omega,by omega⟩,by omega,hr,a1⟩ h)⟩⟩,by omega⟩
 ·have e:i.2=f.af.length:=by omega
  exact e ▸ hi.2 h
 ·simp only [LN] at h2
  rw [aD (by omega) (by omega)]
  exact ⟨by omega,by omega⟩
 ·exact ⟨by omega,by omega⟩
 ·exact w1 _ _ (by omega) (show f.aE.length≤200 from by omega)
 ·exact ⟨⟨by omega,fun h=>absurd h (by decide)⟩,by omega⟩
 ·exact ⟨by omega,by omega⟩
 ·exact w1 _ _ (by omega) (show f.aE.length≤200 from by omega)
 ·exact ⟨⟨by omega,fun h=>absurd h (by decide)⟩,by omega⟩
 ·exact w1 _ _ (by omega) (show f.aE.length≤200 from by omega)
 ·simp only [LN] at hs
  obtain ⟨a1,a2,a3,a4⟩:=hi.2 hc.2
  exact ⟨⟨by omega,fun h=>⟨a1,a2,a3,ext a4 ⟨by omega,by omega⟩⟩⟩,by omega⟩
 ·have e:i.2=f.aE.length:=by omega
  exact e ▸ hi.2 h
 ·exact ⟨⟨by omega,by omega⟩,by omega,by omega⟩
 ·exact w1 _ _ (by omega) (show f.bq.length≤200 from by omega)
 ·obtain ⟨a1,a2,a3,a4,a5⟩:=hi.2 hc.2
  exact ⟨⟨by omega,fun h=>⟨a1,a2,a3,a4,ext a5 (hs ⟨⟨by omega,by omega⟩,by omega,by omega⟩ h)⟩⟩,by omega⟩
 ·have e:i.2=f.bq.length:=by omega
  exact e ▸ hi.2 h
 ·exact ⟨⟨by omega,by omega⟩,by omega⟩
 ·exact w1 _ _ (by omega) (show f.facts.length≤200 from by omega)
 ·exact ⟨⟨by omega,fun _=>hi.2 hc.2⟩,by omega⟩
def oO r f:=kk tok mixed Tryz.func69 [av r.cells,av f.cells] (fun x=>iv x) true (iL r f) (bL r f) (u0 (Kj r f)) (fun (x:Int)=>(r.aQ.length≤200)→(x=0→AU r f)) (FZ r f)
end
end Go.Proofs.YtihmmpaalpghbaaGreatDoor
