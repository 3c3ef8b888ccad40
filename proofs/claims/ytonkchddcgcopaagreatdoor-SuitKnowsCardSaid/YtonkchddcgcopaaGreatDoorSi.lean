/- Functions, as sketches. -/
import Derived.Test.YtonkchddcgcopaaGreatDoorSh
set_option linter.unusedSimpArgs false
set_option linter.unusedVariables false
set_option maxHeartbeats 1000000
set_option maxRecDepth 100000
namespace Go.Proofs.YtonkchddcgcopaaGreatDoor
noncomputable section
open Go Go.Av
def sh (r:ah) (forum:Int) (f:ak) (c_:Claim) (day:Int):Sk (Int × Int) :=
 .r 1 ((aV f day).c) fun x1 =>
 .br ((decide (c_.sign < 0))||(decide (c_.sign≥((x1.af.length:Nat):Int))))
 (.fin (0,1))
 (.r 4 ((yt r forum x1 c_ day).c) fun x2 =>
 .r 5 ((bW r forum x1 day).c) fun x3 =>
 .r 6 ((eX r forum x2.1 ({ file:=x1,sign:=c_.sign,jx:=c_.sign,ch:=(-1),due:=x3,day:=day }:fF)).c) fun x4 =>
 .br ((x4.err != 0)||(x2.2 == (-1)))
 (.fin (0,4))
 (.br (!x4.cell.known)
 (.fin (0,17))
 (.bt
 (.loop (default:Sum (Int × Int) (Int)) (fun i6=>i6.2≤x1.aw.length) (fun i6=>x1.aw.length - i6.2) ((ar (x2.2+x4.cell.n),0):Int × Nat)
 (fun (i6:Int × Nat)=>⟨[(16,iv i6.1),(80,iv (i6.2:Int))],[]⟩) fun i6 =>
 .lt 78 0 i6.2 x1.aw.length
 (.r 14 (.p (bU (i6.2:Int) x1.aw.length)) fun _ =>
 .r 15 ((qL (x1.aw.getD i6.2 default) c_).c) fun x7 =>
 .br ((x7&&(decide (((x1.aw.getD i6.2 default).day)≥x2.2)))&&(decide (((x1.aw.getD i6.2 default).day)≤i6.1)))
 (.r 17 .z fun _ =>
 .wi 80 (ar ((i6.2:Int)+1)) ((i6.2+1:Nat):Int) <|
 .fin (.inr (ar (((x1.aw.getD i6.2 default).day)+x4.cell.n),i6.2+1)))
 (.nx 17 80 i6.2 (i6.1,i6.2+1)))
 (.fin (.inl (.inr i6.1))))
 (fun (b5:Int)=>⟨[(16,iv b5)],[]⟩) fun b5 =>
 .fin (b5,0))))
def Dk r forum f c_ day:=(sh r forum f c_ day).val
theorem Sd (r:ah) (forum:Int) (f:ak) (c_:Claim) (day:Int) (bj:f.Small) (bR:r.cj) (aX:r.Small):(sh r forum f c_ day).bC (fun _=>True):=by
 simp only [ak.Small,ah.Small,ah.cj] at bj
 simp only [ak.Small,ah.Small,ah.cj] at bR
 simp only [ak.Small,ah.Small,ah.cj] at aX
 unfold sh
 try simp only [eX,bW,qL,yt,aV,ak.Small,ah.Small,ah.cj]
 exact mz
def IZ r forum f c_ day:=kk tok mixed Tryz.func65 [av r.cells,iv forum,av f.cells,av c_.cells,iv day] (fun x=>.fD [iv x.1,iv x.2]) true (sh r forum f c_ day) (Dk r forum f c_ day) (u3 (Sd r forum f c_ day))
theorem of_eq (r:ah) (c:fF):aa8 r c=({ c with file:=ai c.file c.day },nQ r { c with file:=ai c.file c.day }):=rfl
def zC (c:Claim) (a:bD) (s:Unit):(Int × Int) ⊕ Unit:=bif (a.kind == 6&&a.dQ == c.aH)&&a.at_ == c.c9 then .inl (15,a.day) else .inr ()
theorem start_eq (r:ah) (fo:Int) (f:ak) (c:Claim) (day:Int):eS r fo f c day=bif c.dF == 0 then (13,bJ r fo f day) else walk (zC c) (fun _=>(14,iM r fo f day)) f.aw ():=by
 simp only [eS,oe,Sk.dK,Sk.gd,Sk.iO,Sk.fB,Sk.js,Sk.l6,Sk.dn,ig.AY,kk,kp,bW,m6]
 congr 1
 refine (dT f.aw (fun s i=>i) (zC c) id _ (fun s i hi=>?_) (fun s=>?_) (by simp) ()).trans rfl
 ·rw [decide_eq_true (by omega),cond_true]
  unfold zC
  cases (((f.aw.getD i default).kind == 6&&(f.aw.getD i default).dQ == c.aH)&&(f.aw.getD i default).at_ == c.c9) <;> rfl
 ·rw [decide_eq_false (by omega),cond_false]
theorem Gt (r:ah) (fo:Int) (f:ak) (day:Int):iM r fo f day=bM ⟨r,fo,ai f day,0,day,bJ r fo f day⟩:=by kernel_rfl
theorem D6 (a:bD) (c:Claim):jo a c=bif a.at_ != c.sign then false else (a.kind == 9)||((a.kind == 8)&&((c.aH == (-1))||(a.dQ == c.aH))):=by kernel_rfl
def zD (c:Claim) (first n:Int) (a:bD) (last:Int):Int:=bif (jo a c&&decide (a.day≥first))&&decide (a.day≤last) then ar (a.day+n) else last
def H3 (c:Claim) (first n:Int) (l:List bD):Int:=l.foldl (fun s a=>zD c first n a s) (ar (first+n))
def AD (r:ah) (fo:Int) (x:ak) (c:Claim) (day:Int):ma:=nk r fo (eS r fo x c day).1 ⟨x,c.sign,c.sign,-1,bJ r fo x day,day⟩
def Nk (r:ah) (fo:Int) (x:ak) (c:Claim) (day:Int):Int × Int :=
 bif decide (c.sign < 0)||decide (c.sign≥(x.af.length:Int)) then (0,1)
 else bif (AD r fo x c day).err != 0||(eS r fo x c day).2 == -1 then (0,4)
 else bif !(AD r fo x c day).cell.known then (0,17) else (H3 c (eS r fo x c day).2 (AD r fo x c day).cell.n x.aw,0)
theorem abC (r:ah) (fo:Int) (f:ak) (c:Claim) (day:Int):Dk r fo f c day=Nk r fo (ai f day) c day:=by
 unfold Dk sh Nk AD
 rw [Sk.js]
 have hx:(ig.c (aV f day)).v=ai f day:=rfl
 rw [hx]
 generalize ai f day=x
 rw [Sk.fB,Sk.dn]
 congr 1
 rw [Sk.js]
 have hv:(ig.c (yt r fo x c day)).v=eS r fo x c day:=rfl
 rw [hv]
 generalize eS r fo x c day=v
 simp only [Sk.dK,Sk.gd,Sk.iO,Sk.fB,Sk.js,Sk.l6,Sk.dn,ig.AY,kk,kp,qL,bW,eX]
 congr 1
 congr 1
 generalize nk r fo v.1 ⟨x,c.sign,c.sign,-1,bJ r fo x day,day⟩=w
 refine (dT x.aw (fun s i=>(s,i)) (fun a s=>.inr (zD c v.2 w.cell.n a s)) id _ (fun s i hi=>?_) (fun s=>?_) (by simp) _).trans ?_
 ·have e:decide ((i:Int) < (x.aw.length:Int))=true:=decide_eq_true (by omega)
  simp only [e,cond_true]
  unfold zD
  cases ((jo (x.aw.getD i default) c&&decide ((x.aw.getD i default).day≥v.2))&&decide ((x.aw.getD i default).day≤s)) <;> rfl
 ·have e:decide ((x.aw.length:Int) < (x.aw.length:Int))=false:=decide_eq_false (by omega)
  simp only [e,cond_false]; rfl
 ·rw [j4]; rfl
def qz (r:ah) (forum:Int) (f:ak) (c_:Claim) (day:Int):Sk (Int) :=
 .r 1 ((IZ r forum f c_ day).c) fun x1 =>
 .br (x1.2 == 17)
 (.fin 2)
 (.br ((x1.2 == 0)&&(decide (day > x1.1)))
 (.fin 1)
 (.fin 0))
def dr r forum f c_ day:=(qz r forum f c_ day).val
theorem Kj (r:ah) (forum:Int) (f:ak) (c_:Claim) (day:Int) (bj:f.Small) (bR:r.cj) (aX:r.Small):(qz r forum f c_ day).bC (fun _=>True):=by
 simp only [ak.Small,ah.Small,ah.cj] at bj
 simp only [ak.Small,ah.Small,ah.cj] at bR
 simp only [ak.Small,ah.Small,ah.cj] at aX
 unfold qz
 try simp only [IZ,ak.Small,ah.Small,ah.cj]
 exact mz
def og r forum f c_ day:=kk tok mixed Tryz.func40 [av r.cells,iv forum,av f.cells,av c_.cells,iv day] (fun x=>iv x) true (qz r forum f c_ day) (dr r forum f c_ day) (u3 (Kj r forum f c_ day))
def my (c_:Claim) (v:ah) (v':Int) (gM:ak) (cO:Int):Sk (Bool) :=
 .r 1 ((og v v' gM c_ cO).c) fun x1 =>
 .fin (x1 == 1)
def cy c_ v v' gM cO:=(my c_ v v' gM cO).val
theorem EO (c_:Claim) (v:ah) (v':Int) (gM:ak) (cO:Int) (aie:gM.Small) (zE:v.cj) (vB:v.Small):(my c_ v v' gM cO).bC (fun _=>True):=by
 simp only [ak.Small,ah.Small,ah.cj] at aie
 simp only [ak.Small,ah.Small,ah.cj] at zE
 simp only [ak.Small,ah.Small,ah.cj] at vB
 unfold my
 try simp only [og,ak.Small,ah.Small,ah.cj]
 exact mz
def iB c_ v v' gM cO:=kk tok mixed Tryz.func39 [av c_.cells,.ref v.cells,.ref [dI v'],.ref gM.cells,.ref [dI cO]] (fun x=>bv x) true (my c_ v v' gM cO) (cy c_ v v' gM cO) (u3 (EO c_ v v' gM cO))
def gy (s:List Claim) (v:ah) (v':Int) (gM:ak) (cO:Int):Sk (Int) :=
 .bind true (fun b1=>∀ q,q < s.length→cy (s.getD q default) v v' gM cO=false)
 (.loop (default:Sum (Int) (Unit)) (fun i2=>∀ q,q < i2→cy (s.getD q default) v v' gM cO=false) (fun i2=>s.length - i2) (0:Nat)
 (fun (i2:Nat)=>⟨[(8,iv (i2:Int))],[]⟩) fun i2 =>
 .lt 0 0 i2 s.length
 (.r 4 (.aj (.p (bU (i2:Int) s.length)) ((iB (s.getD i2 default) v v' gM cO).c)) fun x3 =>
 .br x3
 (.fin (.inl (.inl (i2:Int))))
 (.nx 6 8 i2 (i2+1)))
 (.fin (.inl (.inr ()))))
 (fun (_:Unit)=>⟨[],[]⟩) fun _ =>
 .fin (-1)
def DR s v v' gM cO:=(gy s v v' gM cO).val
theorem zF (s:List Claim) (v:ah) (v':Int) (gM:ak) (cO:Int):(gy s v v' gM cO).dj (fun (x:Int)=>(x = -1∧∀ q,q < s.length→cy (s.getD q default) v v' gM cO=false)∨(0≤x∧x < s.length∧cy (s.getD x.toNat default) v v' gM cO=true∧∀ q,(q:Nat) < x.toNat→cy (s.getD q default) v v' gM cO=false)):=by
 unfold gy
 try simp only [iB,ak.Small,ah.Small,ah.cj]
 exact Fw
theorem AE (s:List Claim) (v:ah) (v':Int) (gM:ak) (cO:Int) (xF:gM.Small) (zE:v.cj) (vB:v.Small):(gy s v v' gM cO).bC (fun _=>True):=by
 simp only [ak.Small,ah.Small,ah.cj] at xF
 simp only [ak.Small,ah.Small,ah.cj] at zE
 simp only [ak.Small,ah.Small,ah.cj] at vB
 unfold gy
 try simp only [iB,ak.Small,ah.Small,ah.cj]
 exact mz
def m7 s v v' gM cO:=kp tok mixed Tryz.func63 [lv Claim.cells s,.fn 39 [.ref v.cells,.ref [dI v'],.ref gM.cells,.ref [dI cO]]] (fun x=>iv x) true (DR s v v' gM cO) (u3 (AE s v v' gM cO)) (zF s v v' gM cO)
structure H4 {α:Type} [Inhabited α] (del:α→Bool) (s l:List α) (i j:Int):Prop where
 len:l.length=s.length
 i0:0≤i
 ij:i < j
 jn:j≤(s.length:Int)
 kept:l.take i.toNat=(s.take j.toNat).filter fun c=>!del c
 rest:∀ q:Nat,j≤(q:Int)→q < s.length→l.getD q default=s.getD q default
theorem si {α:Type} [Inhabited α] {l:List α} {n:Nat} (h:n < l.length):l.take (n+1)=l.take n++[l.getD n default]:=by
 rw [List.take_add_one]
 simp [List.getD,h]
theorem filter_all {α:Type} [Inhabited α] {p:α→Bool} {l:List α} {n:Nat} (hn:n≤l.length) (h:∀ q,q < n→p (l.getD q default)=true):(l.take n).filter p=l.take n:=by
 refine List.filter_eq_self.2 (fun x hx=>?_)
 obtain ⟨q,hq,rfl⟩:=List.getElem_of_mem hx
 have QP:q < n:=by simp at hq; omega
 have:=h q QP
 rw [show l.getD q default=(l.take n)[q] by simp [List.getD,List.getElem?_eq_getElem (show q < l.length by omega)]] at this
 exact this
theorem H4.init {α:Type} [Inhabited α] {del:α→Bool} {s:List α} {x:Int} (h0:0≤x) (h1:x < (s.length:Int)) (hd:del (s.getD x.toNat default)=true) (hk:∀ q,q < x.toNat→del (s.getD q default)=false):H4 del s s x (x+1):=by
 refine ⟨rfl,h0,by omega,by omega,?_,fun _ _ _=>rfl⟩
 rw [show (x+1).toNat=x.toNat+1 by omega,si (by omega),List.filter_append,filter_all (by omega) (fun q hq=>by rw [hk q hq]; rfl)]
 simp only [List.filter_cons,hd,Bool.not_true,Bool.false_eq_true,if_false,List.filter_nil,List.append_nil]
theorem H4.keep {α:Type} [Inhabited α] {del:α→Bool} {s l:List α} {i j:Int} (h:H4 del s l i j) (hj:j < (l.length:Int)) (hd:del (l.getD j.toNat default)=false):H4 del s (l.set i.toNat (l.getD j.toNat default)) (i+1) (j+1):=by
 have hl:=h.len
 have h0:=h.i0
 have h1:=h.ij
 have hr:=h.rest j.toNat (by omega) (by omega)
 refine ⟨by simpa using hl,by omega,by omega,by omega,?_,fun q hq hq2=>?_⟩
 ·rw [show (i+1).toNat=i.toNat+1 by omega,show (j+1).toNat=j.toNat+1 by omega,si (by simp; omega),si (l:=s) (by omega),List.filter_append,← h.kept,List.take_set_of_le (Nat.le_refl _)]
  congr 1
  rw [hr] at hd ⊢
  simp only [List.filter_cons,hd,Bool.not_false,if_true,List.filter_nil]
  simp [List.getD,show i.toNat < l.length by omega]
 ·rw [← h.rest q (by omega) hq2]
  simp only [List.getD]
  rw [List.getElem?_set_ne (by omega)]
theorem H4.drop {α:Type} [Inhabited α] {del:α→Bool} {s l:List α} {i j:Int} (h:H4 del s l i j) (hj:j < (l.length:Int)) (hd:del (l.getD j.toNat default)=true):H4 del s l i (j+1):=by
 have hl:=h.len
 have h0:=h.i0
 have h1:=h.ij
 have hr:=h.rest j.toNat (by omega) (by omega)
 refine ⟨hl,by omega,by omega,by omega,?_,fun q hq hq2=>h.rest q (by omega) hq2⟩
 rw [show (j+1).toNat=j.toNat+1 by omega,si (l:=s) (by omega),List.filter_append,← h.kept]
 rw [hr] at hd
 simp only [List.filter_cons,hd,Bool.not_true,Bool.false_eq_true,if_false,List.filter_nil,List.append_nil]
def abD {α:Type} (del:α→Bool) (s l:List α) (i:Int):Prop:=l.length=s.length∧0≤i∧i≤(s.length:Int)∧l.take i.toNat=s.filter fun c=>!del c
theorem H4.done {α:Type} [Inhabited α] {del:α→Bool} {s l:List α} {i j:Int} (h:H4 del s l i j) (hj:¬ j < (l.length:Int)):abD del s l i:=by
 have hl:=h.len
 have h1:=h.ij
 have h2:=h.jn
 refine ⟨hl,h.i0,by omega,?_⟩
 rw [h.kept,List.take_of_length_le (by omega)]
theorem Zz {α:Type} [Inhabited α] {l:List α} {n:Nat} (h:n≤l.length):mY l 0 n=l.take n:=by
 refine List.ext_getElem (by simp [mY,h]) (fun q h1 h2=>?_)
 have hq:q < l.length:=by simp at h2; omega
 simp [mY,List.getD,hq]
theorem abD.res {α:Type} [Inhabited α] {del:α→Bool} {s l:List α} {i:Int} {z:α} (h:abD del s l i):mY (G4 l i.toNat z) 0 i.toNat=s.filter fun c=>!del c:=by
 have h2:=h.1
 have h3:=h.2.2.1
 rw [← h.2.2.2,Zz (by rw [BO]; omega)]
 simp only [G4]
 rw [List.take_append_of_le_length (by simp; omega),List.take_take,Nat.min_self]
theorem filter_none {α:Type} [Inhabited α] {del:α→Bool} {s:List α} (h:∀ q,q < s.length→del (s.getD q default)=false):s=s.filter fun c=>!del c:=by
 have:=filter_all (p:=fun c=>!del c) (l:=s) (n:=s.length) (Nat.le_refl _) (fun q hq=>by rw [h q hq]; rfl)
 rw [List.take_length] at this
 exact this.symm
def dS (s:List Claim) (v:ah) (v':Int) (gM:ak) (cO:Int):Sk ((List Claim)) :=
 .r 1 ((m7 s v v' gM cO).c) fun x1 =>
 .br (x1 == (-1))
 (.fin s)
 (.bind true (fun b2=>abD (fun c_=>cy c_ v v' gM cO) s b2.1 b2.2)
 (.loop (default:Sum ((List Claim)) ((List Claim) × Int)) (fun i3=>H4 (fun c_=>cy c_ v v' gM cO) s i3.1 i3.2.1 i3.2.2) (fun i3=>((s.length:Int) - i3.2.2).toNat) ((s,x1,ar (x1+1)):(List Claim) × Int × Int)
 (fun (i3:(List Claim) × Int × Int)=>⟨[(0,ow 100002 i3.1),(5,iv i3.2.1),(6,iv i3.2.2)],[(100002,bw 83 9 Claim.cells i3.1)]⟩) fun i3 =>
 .br (decide (i3.2.2 < ((i3.1.length:Nat):Int)))
 (.r 7 (.aj (.p (bU i3.2.2 i3.1.length)) (.p (i3.2.2.toNat < i3.1.length))) fun _ =>
 .r 8 ((iB (i3.1.getD i3.2.2.toNat default) v v' gM cO).c) fun x4 =>
 .br (!x4)
 (.r 9 (.aj (.p (bU i3.2.1 i3.1.length)) (.aj (.o [.eG (uf Claim.E i3.1 i3.2.1.toNat (i3.1.getD i3.2.2.toNat default))]) (.p (i3.2.1.toNat < i3.1.length)))) fun _ =>
 .wn 100002 i3.1.length (i3.1.set i3.2.1.toNat (i3.1.getD i3.2.2.toNat default)).length <|
 .fin (.inr (i3.1.set i3.2.1.toNat (i3.1.getD i3.2.2.toNat default),ar (i3.2.1+1),ar (i3.2.2+1))))
 (.fin (.inr (i3.1,i3.2.1,ar (i3.2.2+1)))))
 (.fin (.inl (.inr (i3.1,i3.2.1)))))
 (fun (b2:(List Claim) × Int)=>⟨[(0,ow 100001 b2.1),(5,iv b2.2)],[(100001,bw 83 9 Claim.cells b2.1)]⟩) fun b2 =>
 .PV 11 b2.2 (ahE Claim.E b2.1 b2.2.toNat ({ bL:=0,aH:=0,part:=0,sign:=0,c9:=0,dF:=0,sum:=0,au:=0,state:=0 }:Claim) [dI 0,dI 0,dI 0,dI 0,dI 0,dI 0,dI 0,dI 0,dI 0] (by kernel_rfl)) <|
 .r 12 (.aj (.o [.eG (afT Claim.E (G4 b2.1 b2.2.toNat ({ bL:=0,aH:=0,part:=0,sign:=0,c9:=0,dF:=0,sum:=0,au:=0,state:=0 }:Claim)) b2.2.toNat)]) (.p (0≤b2.2∧b2.2≤(((G4 b2.1 b2.2.toNat ({ bL:=0,aH:=0,part:=0,sign:=0,c9:=0,dF:=0,sum:=0,au:=0,state:=0 }:Claim)).length:Nat):Int)))) fun _ =>
 .fin (mY (G4 b2.1 b2.2.toNat ({ bL:=0,aH:=0,part:=0,sign:=0,c9:=0,dF:=0,sum:=0,au:=0,state:=0 }:Claim)) 0 b2.2.toNat))
def kJ s v v' gM cO:=(dS s v v' gM cO).val
theorem yu (s:List Claim) (v:ah) (v':Int) (gM:ak) (cO:Int) (hP:s.length≤1000000000):(dS s v v' gM cO).dj (fun (x:(List Claim))=>x=s.filter fun c_=>!cy c_ v v' gM cO):=by
 refine Sk.bz _ ?_
 unfold dS
 simp only [Sk.de,Sk.aI,reduceCtorEq,ON,kk,kp,iB,m7,maxLen]
 intro x _ hx
 refine ⟨fun hc=>filter_none (del:=(fun c_=>cy c_ v v' gM cO)) (hx.elim (fun h=>h.2) (fun h=>absurd (beq_iff_eq.1 hc) (by omega))),fun hc=>⟨⟨?_,fun i hi=>⟨fun hj _ y hy=>⟨fun hn _=>?_,fun hn=>?_⟩,fun hj=>?_⟩⟩,fun b hb _=>abD.res (del:=(fun c_=>cy c_ v v' gM cO)) hb⟩⟩
 all_goals simp only [LN] at hc
 ·have hx:=hx.resolve_left (fun e=>hc e.1)
  rw [aA (by omega) (by omega)]
  exact H4.init (del:=(fun c_=>cy c_ v v' gM cO)) hx.1 hx.2.1 hx.2.2.1 hx.2.2.2
 all_goals have VE:=hi.len
 all_goals have hj3:=hi.i0
 all_goals have hj4:=hi.ij
 all_goals have hj5:=hi.jn
 all_goals simp only [LN] at hj
 ·rw [aA (n:=i.2.1+1) (by omega) (by omega),aA (n:=i.2.2+1) (by omega) (by omega)]
  exact ⟨hi.keep (by omega) (by subst hy; simpa using hn),by omega⟩
 ·rw [aA (by omega) (by omega)]
  exact ⟨hi.drop (by omega) (by subst hy; simpa using hn),by omega⟩
 ·exact hi.done (by omega)
theorem wZ (s:List Claim) (v:ah) (v':Int) (gM:ak) (cO:Int):(fun (x:(List Claim))=>(s.length≤1000000000)→(x=s.filter fun c_=>!cy c_ v v' gM cO)) (kJ s v v' gM cO):=fun hP=>Sk.dk _ (yu s v v' gM cO hP)
theorem zG (s:List Claim) (v:ah) (v':Int) (gM:ak) (cO:Int) (hs:s.length≤1000000000) (xF:gM.Small) (zE:v.cj) (vB:v.Small):(dS s v v' gM cO).bC (fun _=>True):=by
 refine Sk.aR _ ?_
 unfold dS
 simp only [Sk.jt,Sk.aI,reduceCtorEq,ON,kk,kp,iB,m7,maxLen]
 refine ⟨by (repeat' first | assumption | trivial | apply And.intro),fun x _ hx hc=>⟨⟨?_,fun i hi=>⟨fun hj=>⟨?_,fun _=>⟨by (repeat' first | assumption | trivial | apply And.intro),fun y hy=>⟨fun hn=>⟨?_,fun _=>⟨?_,?_⟩⟩,fun hn=>?_⟩⟩⟩,fun hj=>?_⟩⟩,fun b hb=>?_⟩⟩
 all_goals simp only [LN] at hc
 ·have hx:=hx.resolve_left (fun e=>hc e.1)
  rw [aA (by omega) (by omega)]
  exact H4.init (del:=(fun c_=>cy c_ v v' gM cO)) hx.1 hx.2.1 hx.2.2.1 hx.2.2.2
 rotate_right 1
 ·have h1:=hb.1
  have h2:=hb.2.1
  have h3:=hb.2.2.1
  refine ⟨⟨h2,?_⟩,h2,by rw [BO]; omega⟩
  show b.2≤((b.1.length:Nat):Int)
  omega
 all_goals have VE:=hi.len
 all_goals have hj3:=hi.i0
 all_goals have hj4:=hi.ij
 all_goals have hj5:=hi.jn
 all_goals simp only [LN] at hj
 ·omega
 ·omega
 ·rw [List.length_set]
 ·rw [aA (n:=i.2.1+1) (by omega) (by omega),aA (n:=i.2.2+1) (by omega) (by omega)]
  exact ⟨hi.keep (by omega) (by subst hy; simpa using hn),by omega⟩
 ·rw [aA (by omega) (by omega)]
  exact ⟨hi.drop (by omega) (by subst hy; simpa using hn),by omega⟩
 ·exact hi.done (by omega)
theorem yw (s:List Claim) (v:ah) (v':Int) (gM:ak) (cO:Int) (hs:s.length≤1000000000) (xF:gM.Small) (zE:v.cj) (vB:v.Small):gQ Tryz.prog 37 [ow 777776 s,.fn 39 [.ref v.cells,.ref [dI v'],.ref gM.cells,.ref [dI cO]]] [(777776,bw 83 9 Claim.cells s)] (ow 777777 (kJ s v v' gM cO)) [(777777,bw 83 9 Claim.cells (kJ s v v' gM cO))] :=
 gQ.sk tok mixed (fun x=>ow 777777 x) (fun x=>[(777777,bw 83 9 Claim.cells x)]) Tryz.func37 rfl (by kernel_rfl) 3000 (dS s v v' gM cO) (by kernel_rfl) (zG s v v' gM cO hs xF zE vB)
def fR (κ κ':Nat) (s:List Claim) (v:ah) (v':Int) (gM:ak) (cO:Int):yR ((List Claim)):=⟨Tryz.prog,37,[ow κ s,.fn 39 [.ref v.cells,.ref [dI v'],.ref gM.cells,.ref [dI cO]]],[(κ,bw 83 9 Claim.cells s)],fun x=>ow κ' x,fun x=>[(κ',bw 83 9 Claim.cells x)],kJ s v v' gM cO,(s.length≤1000000000)∧(gM.Small)∧(v.cj)∧(v.Small),fun h=>gQ.Wr κ rfl (gQ.Wq κ' (yw s v v' gM cO h.1 h.2.1 h.2.2.1 h.2.2.2)),fun (x:(List Claim))=>(s.length≤1000000000)→(x=s.filter fun c_=>!cy c_ v v' gM cO),wZ s v v' gM cO⟩
theorem UW {α:Type} (g:α→α) (l:List α) (n:Nat):((l.take n).map g++l.drop n).length=l.length:=by
 simp only [List.length_append,List.length_map,List.length_take,List.length_drop]
 omega
theorem wC {α:Type} [Inhabited α] (g:α→α) {l:List α} {n:Nat} (h:n < l.length):((l.take n).map g++l.drop n).getD n default=l.getD n default:=by
 simp only [List.getD]
 rw [List.getElem?_append_right (by simp; omega)]
 have:n - ((l.take n).map g).length=0:=by simp; omega
 rw [this,List.getElem?_drop,Nat.add_zero]
theorem Gu {α:Type} [Inhabited α] (g:α→α) {l:List α} {n:Nat} (h:n < l.length):((l.take n).map g++l.drop n).set n (g (l.getD n default))=(l.take (n+1)).map g++l.drop (n+1):=by
 have h1:((l.take n).map g).length=n:=by simp; omega
 have h2:l[n]?.toList=[l.getD n default]:=by simp [List.getD,h]
 rw [List.set_append_right _ _ (by omega),h1,Nat.sub_self,List.take_add_one,h2,List.drop_eq_getElem_cons h,List.set_cons_zero,List.map_append,List.append_assoc,List.map_cons,List.map_nil,List.singleton_append]
theorem H5 {α:Type} [Inhabited α] (g:α→α) {l:List α} {n:Nat} (h:n < l.length) (hg:g (l.getD n default)=l.getD n default):(l.take n).map g++l.drop n=(l.take (n+1)).map g++l.drop (n+1):=by
 rw [← Gu g h,hg,← wC g h]
 have h2:n < ((l.take n).map g++l.drop n).length:=by rw [UW]; exact h
 generalize (l.take n).map g++l.drop n=m at h2
 refine List.ext_getElem (by simp) (fun i h3 h4=>?_)
 rw [List.getElem_set]
 split
 ·rename_i e
  subst e
  simp [List.getD,h2]
 ·rfl
theorem UX {α:Type} (g:α→α) {l:List α} {n:Nat} (h:l.length≤n):(l.take n).map g++l.drop n=l.map g:=by
 rw [List.take_of_length_le h,List.drop_of_length_le h,List.append_nil]
theorem Gv {r:ah} {forum:Int} {f:ak} {day:Int} {l:List Claim} (hF:cb r f) (h:yp (ai f day) (cm r forum f day) (ai f day).aw.length l):l.length≤1000000000:=by
 have h1:=h.count.1
 have h2:=Nc (forum:=forum) (day:=day) hF
 have h3:=hF.2.1.2.2.2.1
 have h5:=(B5 f day).2.1
 have h4:=Nat.mul_le_mul (show (ai f day).aw.length≤100 by omega) h2
 omega
def yx (r:ah) (forum:Int) (f:ak) (day:Int) (c:Claim):Claim:=bif dr r forum f c day == 2 then { c with state:=2 } else c
def sY (r:ah) (forum:Int) (f:ak) (day:Int) (c:Claim):Bool:=!(dr r forum f c day == 1)
theorem Se (r:ah) (forum:Int) (f:ak) (day:Int):(fun c_=>!cy c_ r forum f day)=sY r forum f day:=by
 funext c
 show (!cy c r forum f day) = !(dr r forum f c day == 1)
 congr 1
def ke (r:ah) (forum:Int) (f:ak) (day:Int):Sk ((List Claim)) :=
 .r 0 (.aj (.o [.pur 4]) (.aj (.o [.pur 5]) (.aj (.o [.pur 6]) (.o [.pur 7])))) fun _ =>
 .r 1 (.dep ((yq 16 r forum f day).c) fun x1=>(fR 16 18 x1 r forum f day).c) fun p6 =>
 .bind true (fun b3=>b3=p6.2.map (yx r forum f day))
 (.loop (default:Sum ((List Claim)) ((List Claim))) (fun i4=>i4.2≤p6.2.length∧i4.1=(p6.2.take i4.2).map (yx r forum f day)++p6.2.drop i4.2) (fun i4=>p6.2.length - i4.2) ((p6.2,0):(List Claim) × Nat)
 (fun (i4:(List Claim) × Nat)=>⟨[(9,ow 100002 i4.1),(19,ow 100002 i4.1),(21,iv (i4.2:Int))],[(100002,bw 83 9 Claim.cells i4.1)]⟩) fun i4 =>
 .br (decide ((i4.2:Int) < ((p6.2.length:Nat):Int)))
 (.r 4 (.aj (.p (bU (i4.2:Int) i4.1.length)) (.p (i4.2 < i4.1.length))) fun _ =>
 .r 5 ((og r forum f (i4.1.getD i4.2 default) day).c) fun x5 =>
 .br (x5 == 2)
 (.r 6 (.aj (.p (bU (i4.2:Int) i4.1.length)) (.aj (.o [.eG (uf Claim.E i4.1 i4.2 ({ i4.1.getD i4.2 default with state:=2 }))]) (.p (i4.2 < i4.1.length)))) fun _ =>
 .wn 100002 i4.1.length (i4.1.set i4.2 ({ i4.1.getD i4.2 default with state:=2 })).length <|
 .nx 7 21 i4.2 (i4.1.set i4.2 ({ i4.1.getD i4.2 default with state:=2 }),i4.2+1))
 (.nx 7 21 i4.2 (i4.1,i4.2+1)))
 (.fin (.inl (.inr i4.1))))
 (fun (b3:(List Claim))=>⟨[(9,ow 100001 b3)],[(100001,bw 83 9 Claim.cells b3)]⟩) fun b3 =>
 .fin b3
def cG r forum f day:=(ke r forum f day).val
theorem H6 (r:ah) (forum:Int) (f:ak) (day:Int) (hP:cb r f):(ke r forum f day).dj (fun (x:(List Claim))=>x=((eQ r forum f day).filter (sY r forum f day)).map (yx r forum f day)):=by
 refine Sk.bz _ ?_
 unfold ke
 simp only [Sk.de,Sk.aI,reduceCtorEq,ON,kk,kp,og,yq,fR,fR,yR.c,maxLen]
 have hg:∀ c,dr r forum f c day=2→yx r forum f day c = { c with state:=2 }:=fun c h=>by unfold yx; rw [h]; rfl
 have hn:∀ c,dr r forum f c day≠2→yx r forum f day c=c:=fun c h=>by unfold yx; rw [beq_eq_false_iff_ne.2 h]; rfl
 intro _ x hx hp
 have hd:x.2=(eQ r forum f day).filter (sY r forum f day):=by
  have:=hp.2 (by rw [hx] at hp ⊢; exact Gv hP hp.1)
  rw [this,Se,hx]
 refine ⟨⟨⟨Nat.zero_le _,by simp⟩,fun i hi=>⟨fun hc _ y hy=>⟨fun h2 _ _=>?_,fun h2 _=>?_⟩,fun hc=>?_⟩⟩,fun b hb=>by rw [hb,hd]⟩
 all_goals simp only [LN] at hc
 ·simp only [LN] at h2
  rw [hi.2,wC _ (by omega)] at hy
  refine ⟨⟨by omega,?_⟩,by omega⟩
  rw [← Gu _ (by omega),hi.2,wC _ (by omega),hg _ (by omega)]
 ·simp only [LN] at h2
  rw [hi.2,wC _ (by omega)] at hy
  refine ⟨⟨by omega,?_⟩,by omega⟩
  rw [← H5 _ (by omega) (hn _ (by omega))]
  exact hi.2
 ·rw [hi.2,UX _ (by omega)]
theorem nz (r:ah) (forum:Int) (f:ak) (day:Int):(fun (x:(List Claim))=>(cb r f)→(x=((eQ r forum f day).filter (sY r forum f day)).map (yx r forum f day))) (cG r forum f day):=fun hP=>Sk.dk _ (H6 r forum f day hP)
theorem Kk (r:ah) (forum:Int) (f:ak) (day:Int) (hF:cb r f) (bj:f.Small) (bR:r.cj) (aX:r.Small) (gX:r.il) (gv:r.dg):(ke r forum f day).bC (fun _=>True):=by
 refine Sk.aR _ ?_
 unfold ke
 simp only [Sk.jt,Sk.aI,reduceCtorEq,ON,kk,kp,og,yq,fR,fR,yR.c,maxLen]
 have hg:∀ c,dr r forum f c day=2→yx r forum f day c = { c with state:=2 }:=fun c h=>by unfold yx; rw [h]; rfl
 have hn:∀ c,dr r forum f c day≠2→yx r forum f day c=c:=fun c h=>by unfold yx; rw [beq_eq_false_iff_ne.2 h]; rfl
 refine fun _=>⟨⟨⟨hF,bj,bR,aX,gX,gv⟩,fun x _ hp=>⟨Gv hF hp,by (repeat' first | assumption | trivial | apply And.intro)⟩⟩,fun x hx hp=>⟨⟨Nat.zero_le _,by simp⟩,fun i hi=>⟨fun hc=>?_,fun hc=>?_⟩⟩⟩
 all_goals simp only [LN] at hc
 ·have hl:i.1.length=x.2.length:=by rw [hi.2,UW]
  have hm:x.2.length≤1000000000:=by
   have h1:=hp.1
   have h2:=hp.2 (by rw [hx] at hp ⊢; exact Gv hF hp.1)
   rw [hx] at h1
   have h3:=Gv hF h1
   rw [h2,hx]
   exact Nat.le_trans (List.length_filter_le _ _) h3
  have hw:ar ((i.2:Int)+1)=((i.2+1:Nat):Int):=(aA (by omega) (by omega)).trans (by omega)
  refine ⟨by omega,fun _=>⟨by (repeat' first | assumption | trivial | apply And.intro),fun y hy=>⟨fun h2=>⟨by omega,fun _=>⟨by rw [List.length_set],fun _=>⟨hw,⟨by omega,?_⟩,by omega⟩⟩⟩,fun h2 _=>⟨hw,⟨by omega,?_⟩,by omega⟩⟩⟩⟩
  all_goals rw [hi.2,wC _ (by omega)] at hy
  all_goals simp only [LN] at h2
  ·rw [← Gu _ (by omega),hi.2,wC _ (by omega),hg _ (by omega)]
  ·rw [← H5 _ (by omega) (hn _ (by omega))]
   exact hi.2
 ·rw [hi.2,UX _ (by omega)]
def oh r forum f day:=kk tok mixed Tryz.func19 [av r.cells,iv forum,av f.cells,iv day] (fun x=>lv Claim.cells x) false (ke r forum f day) (cG r forum f day) (u6 (Kk r forum f day)) (fun (x:(List Claim))=>(cb r f)→(x=((eQ r forum f day).filter (sY r forum f day)).map (yx r forum f day))) (nz r forum f day)
structure cx where
 r:ah
 forum:Int
 day:Int
 files:List ak
 s:cS
 deriving Inhabited
def cx.cells (c:cx):List D:=c.r.cells++[dI c.forum,dI c.day,nI ak.cells c.files]++c.s.cells
def cx.zH (x:cx):Prop:=(x.r.Small∧x.r.cj∧x.r.il∧x.r.dg)∧(∀ q,q < x.files.length→(x.files.getD q default).Small∧cb x.r (x.files.getD q default))∧(0≤x.s.file∧x.s.file < x.files.length)
def jN (x_:cx) (c_:Claim):Sk (Int) :=
 .r 1 (.aj (.p (bU x_.s.file x_.files.length)) ((aV (x_.files.getD x_.s.file.toNat default) x_.day).c)) fun x1 =>
 .bt
 (.Dw <|
 .Dw <|
 .fin (.inr ()))
 (fun (_:Unit)=>⟨[],[]⟩) fun _ =>
 .r 17 (.aj (.p (0≤(0:Int)∧(0:Int) < ((7:Nat):Int))) ((cI x1 0 c_.sign).c)) fun x3 =>
 .br (!x3.known)
 (.fin 2)
 (.br (x3.n == 0)
 (.fin 1)
 (.fin 0))
def wD x_ c_:=(jN x_ c_).val
theorem Bg (x_:cx) (c_:Claim) (hx:x_.zH):(jN x_ c_).bC (fun _=>True):=by
 refine Sk.aR _ ?_
 unfold jN
 simp only [Sk.jt,Sk.aI,reduceCtorEq,ON,kk,kp,aV,cI,maxLen]
 obtain ⟨⟨h1,h2,h3,h4⟩,h5,h6⟩:=hx
 have h7:=h5 x_.s.file.toNat (by omega)
 have hx:x_.zH:=⟨⟨h1,h2,h3,h4⟩,h5,h6⟩
 all_goals (repeat' first | exact hx | exact h7.1 | exact h7.2 | assumption | (with_reducible apply And.intro) | (intro h))
 all_goals try simp only [LN] at *
 all_goals first | trivial | assumption | omega | (rw [aA (by omega) (by omega)]; omega)
def Cz x_ c_:=kk tok mixed Tryz.func22 [av x_.cells,av c_.cells,iv 0] (fun x=>iv x) true (jN x_ c_) (wD x_ c_) (Bg x_ c_)
def jO (x_:cx) (c_:Claim):Sk (Int) :=
 .r 1 (.aj (.p (bU x_.s.file x_.files.length)) ((aV (x_.files.getD x_.s.file.toNat default) x_.day).c)) fun x1 =>
 .bt
 (.Dw <|
 .Dw <|
 .fin (.inr ()))
 (fun (_:Unit)=>⟨[],[]⟩) fun _ =>
 .r 17 (.aj (.p (0≤(1:Int)∧(1:Int) < ((7:Nat):Int))) ((cI x1 1 c_.sign).c)) fun x3 =>
 .br (!x3.known)
 (.fin 2)
 (.br (x3.n == 0)
 (.fin 1)
 (.fin 0))
def wE x_ c_:=(jO x_ c_).val
theorem Bh (x_:cx) (c_:Claim) (hx:x_.zH):(jO x_ c_).bC (fun _=>True):=by
 refine Sk.aR _ ?_
 unfold jO
 simp only [Sk.jt,Sk.aI,reduceCtorEq,ON,kk,kp,aV,cI,maxLen]
 obtain ⟨⟨h1,h2,h3,h4⟩,h5,h6⟩:=hx
 have h7:=h5 x_.s.file.toNat (by omega)
 have hx:x_.zH:=⟨⟨h1,h2,h3,h4⟩,h5,h6⟩
 all_goals (repeat' first | exact hx | exact h7.1 | exact h7.2 | assumption | (with_reducible apply And.intro) | (intro h))
 all_goals try simp only [LN] at *
 all_goals first | trivial | assumption | omega | (rw [aA (by omega) (by omega)]; omega)
def CA x_ c_:=kk tok mixed Tryz.func22 [av x_.cells,av c_.cells,iv 1] (fun x=>iv x) true (jO x_ c_) (wE x_ c_) (Bh x_ c_)
def jP (x_:cx) (c_:Claim):Sk (Int) :=
 .r 1 (.aj (.p (bU x_.s.file x_.files.length)) ((aV (x_.files.getD x_.s.file.toNat default) x_.day).c)) fun x1 =>
 .bt
 (.Dw <|
 .Dw <|
 .fin (.inr ()))
 (fun (_:Unit)=>⟨[],[]⟩) fun _ =>
 .r 17 (.aj (.p (0≤(2:Int)∧(2:Int) < ((7:Nat):Int))) ((cI x1 2 c_.sign).c)) fun x3 =>
 .br (!x3.known)
 (.fin 2)
 (.br (x3.n == 0)
 (.fin 1)
 (.fin 0))
def wF x_ c_:=(jP x_ c_).val
theorem Bi (x_:cx) (c_:Claim) (hx:x_.zH):(jP x_ c_).bC (fun _=>True):=by
 refine Sk.aR _ ?_
 unfold jP
 simp only [Sk.jt,Sk.aI,reduceCtorEq,ON,kk,kp,aV,cI,maxLen]
 obtain ⟨⟨h1,h2,h3,h4⟩,h5,h6⟩:=hx
 have h7:=h5 x_.s.file.toNat (by omega)
 have hx:x_.zH:=⟨⟨h1,h2,h3,h4⟩,h5,h6⟩
 all_goals (repeat' first | exact hx | exact h7.1 | exact h7.2 | assumption | (with_reducible apply And.intro) | (intro h))
 all_goals try simp only [LN] at *
 all_goals first | trivial | assumption | omega | (rw [aA (by omega) (by omega)]; omega)
def CB x_ c_:=kk tok mixed Tryz.func22 [av x_.cells,av c_.cells,iv 2] (fun x=>iv x) true (jP x_ c_) (wF x_ c_) (Bi x_ c_)
def jQ (x_:cx) (c_:Claim):Sk (Int) :=
 .r 1 (.aj (.p (bU x_.s.file x_.files.length)) ((aV (x_.files.getD x_.s.file.toNat default) x_.day).c)) fun x1 =>
 .bt
 (.Dw <|
 .Dw <|
 .fin (.inr ()))
 (fun (_:Unit)=>⟨[],[]⟩) fun _ =>
 .r 17 (.aj (.p (0≤(3:Int)∧(3:Int) < ((7:Nat):Int))) ((cI x1 4 c_.sign).c)) fun x3 =>
 .br (!x3.known)
 (.fin 2)
 (.br (x3.n == 0)
 (.fin 1)
 (.fin 0))
def wG x_ c_:=(jQ x_ c_).val
theorem Bj (x_:cx) (c_:Claim) (hx:x_.zH):(jQ x_ c_).bC (fun _=>True):=by
 refine Sk.aR _ ?_
 unfold jQ
 simp only [Sk.jt,Sk.aI,reduceCtorEq,ON,kk,kp,aV,cI,maxLen]
 obtain ⟨⟨h1,h2,h3,h4⟩,h5,h6⟩:=hx
 have h7:=h5 x_.s.file.toNat (by omega)
 have hx:x_.zH:=⟨⟨h1,h2,h3,h4⟩,h5,h6⟩
 all_goals (repeat' first | exact hx | exact h7.1 | exact h7.2 | assumption | (with_reducible apply And.intro) | (intro h))
 all_goals try simp only [LN] at *
 all_goals first | trivial | assumption | omega | (rw [aA (by omega) (by omega)]; omega)
def CD x_ c_:=kk tok mixed Tryz.func22 [av x_.cells,av c_.cells,iv 3] (fun x=>iv x) true (jQ x_ c_) (wG x_ c_) (Bj x_ c_)
def jR (x_:cx) (c_:Claim):Sk (Int) :=
 .r 1 (.aj (.p (bU x_.s.file x_.files.length)) ((aV (x_.files.getD x_.s.file.toNat default) x_.day).c)) fun x1 =>
 .bt
 (.Dw <|
 .Dw <|
 .fin (.inr ()))
 (fun (_:Unit)=>⟨[],[]⟩) fun _ =>
 .r 17 (.aj (.p (0≤(4:Int)∧(4:Int) < ((7:Nat):Int))) ((cI x1 3 c_.sign).c)) fun x3 =>
 .br (!x3.known)
 (.fin 2)
 (.br (x3.n == 0)
 (.fin 1)
 (.fin 0))
def wH x_ c_:=(jR x_ c_).val
theorem Bk (x_:cx) (c_:Claim) (hx:x_.zH):(jR x_ c_).bC (fun _=>True):=by
 refine Sk.aR _ ?_
 unfold jR
 simp only [Sk.jt,Sk.aI,reduceCtorEq,ON,kk,kp,aV,cI,maxLen]
 obtain ⟨⟨h1,h2,h3,h4⟩,h5,h6⟩:=hx
 have h7:=h5 x_.s.file.toNat (by omega)
 have hx:x_.zH:=⟨⟨h1,h2,h3,h4⟩,h5,h6⟩
 all_goals (repeat' first | exact hx | exact h7.1 | exact h7.2 | assumption | (with_reducible apply And.intro) | (intro h))
 all_goals try simp only [LN] at *
 all_goals first | trivial | assumption | omega | (rw [aA (by omega) (by omega)]; omega)
def CE x_ c_:=kk tok mixed Tryz.func22 [av x_.cells,av c_.cells,iv 4] (fun x=>iv x) true (jR x_ c_) (wH x_ c_) (Bk x_ c_)
def jS (x_:cx) (c_:Claim):Sk (Int) :=
 .r 1 (.aj (.p (bU x_.s.file x_.files.length)) ((aV (x_.files.getD x_.s.file.toNat default) x_.day).c)) fun x1 =>
 .KC <|
 .bt
 (.loop (default:Sum (Int) (Int)) (fun i3=>i3.2≤x1.aw.length) (fun i3=>x1.aw.length - i3.2) ((0,0):Int × Nat)
 (fun (i3:Int × Nat)=>⟨[(8,iv i3.1),(29,iv (i3.2:Int))],[]⟩) fun i3 =>
 .lt 27 0 i3.2 x1.aw.length
 (.r 7 (.p (bU (i3.2:Int) x1.aw.length)) fun _ =>
 .br (((((x1.aw.getD i3.2 default).kind) == 6)&&(((x1.aw.getD i3.2 default).dQ) == x_.s.cW))&&(((x1.aw.getD i3.2 default).cM) != x_.s.cV))
 (.r 10 .z fun _ =>
 .wi 29 (ar ((i3.2:Int)+1)) ((i3.2+1:Nat):Int) <|
 .fin (.inr (ar (i3.1+((x1.aw.getD i3.2 default).sum)),i3.2+1)))
 (.nx 10 29 i3.2 (i3.1,i3.2+1)))
 (.fin (.inl (.inr i3.1))))
 (fun (b2:Int)=>⟨[(8,iv b2)],[]⟩) fun b2 =>
 .br (decide (b2≥c_.sum))
 (.fin 1)
 (.fin 0)
def wI x_ c_:=(jS x_ c_).val
theorem Bl (x_:cx) (c_:Claim) (hx:x_.zH):(jS x_ c_).bC (fun _=>True):=by
 refine Sk.aR _ ?_
 unfold jS
 simp only [Sk.jt,Sk.aI,reduceCtorEq,ON,kk,kp,aV,maxLen]
 obtain ⟨⟨h1,h2,h3,h4⟩,h5,h6⟩:=hx
 have h7:=h5 x_.s.file.toNat (by omega)
 have hx:x_.zH:=⟨⟨h1,h2,h3,h4⟩,h5,h6⟩
 all_goals (repeat' first | exact hx | exact h7.1 | exact h7.2 | assumption | (with_reducible apply And.intro) | (intro h))
 all_goals try simp only [LN] at *
 all_goals first | trivial | assumption | omega | (rw [aA (by omega) (by omega)]; omega)
def CF x_ c_:=kk tok mixed Tryz.func22 [av x_.cells,av c_.cells,iv 5] (fun x=>iv x) true (jS x_ c_) (wI x_ c_) (Bl x_ c_)
def nA (x_:cx) (aO:Int) (c_:Claim) (ch:Int):Sk (Int) :=
 .r 1 (.p (bU x_.s.file x_.files.length)) fun _ =>
 .r 2 ((bW x_.r x_.forum (x_.files.getD x_.s.file.toNat default) x_.day).c) fun x1 =>
 .r 3 (.dep ((eX x_.r x_.forum aO ({ file:=x_.files.getD x_.s.file.toNat default,sign:=c_.sign,jx:=c_.c9,ch:=ch,due:=x1,day:=x_.day }:fF)).c) fun x2=>(eZ x2).c) fun p4 =>
 .fin p4.2
def fj x_ aO c_ ch:=(nA x_ aO c_ ch).val
theorem Gw (x_:cx) (aO:Int) (c_:Claim) (ch:Int) (hx:x_.zH):(nA x_ aO c_ ch).bC (fun _=>True):=by
 refine Sk.aR _ ?_
 unfold nA
 simp only [Sk.jt,Sk.aI,reduceCtorEq,ON,kk,kp,eX,bW,eZ,maxLen]
 obtain ⟨⟨h1,h2,h3,h4⟩,h5,h6⟩:=hx
 have h7:=h5 x_.s.file.toNat (by omega)
 have hx:x_.zH:=⟨⟨h1,h2,h3,h4⟩,h5,h6⟩
 all_goals (repeat' first | exact hx | exact h7.1 | exact h7.2 | assumption | (with_reducible apply And.intro) | (intro h))
 all_goals try simp only [LN] at *
 all_goals first | trivial | assumption | omega | (rw [aA (by omega) (by omega)]; omega)
def lU x_ aO c_ ch:=kk tok mixed Tryz.func23 [av x_.cells,iv aO,av c_.cells,iv ch] (fun x=>iv x) true (nA x_ aO c_ ch) (fj x_ aO c_ ch) (Gw x_ aO c_ ch)
def jT (x_:cx) (c_:Claim):Sk (Int) :=
 .bt
 (.loop (default:Sum (Int) (Int × Int)) (fun i2=>i2.2.2≤x_.files.length) (fun i2=>x_.files.length - i2.2.2) ((0,0,0):Int × Int × Nat)
 (fun (i2:Int × Int × Nat)=>⟨[(5,iv i2.1),(6,iv i2.2.1),(14,iv (i2.2.2:Int))],[]⟩) fun i2 =>
 .lt 12 0 i2.2.2 x_.files.length
 (.bt
 (.r 4 (.p (bU (i2.2.2:Int) x_.files.length)) fun _ =>
 .r 5 ((oh x_.r x_.forum (x_.files.getD i2.2.2 default) x_.day).c) fun x4 =>
 .bt
 (.loop (default:Sum (Sum (Sum (Sum (Int) (Int × Int)) (Int × Int × Nat)) (Int × Int)) (Int × Int × Int)) (fun i6=>i6.2.2≤x4.length) (fun i6=>x4.length - i6.2.2) ((i2.1,i2.2.1,0):Int × Int × Nat)
 (fun (i6:Int × Int × Nat)=>⟨[(5,iv i6.1),(6,iv i6.2.1),(27,iv (i6.2.2:Int))],[]⟩) fun i6 =>
 .lt 25 0 i6.2.2 x4.length
 (.r 7 (.p (bU (i6.2.2:Int) x4.length)) fun _ =>
 .br (((((x4.getD i6.2.2 default).bL) != c_.aH)||(((x4.getD i6.2.2 default).aH) != c_.bL))||(((x4.getD i6.2.2 default).au) != c_.au))
 (.nx 12 27 i6.2.2 (i6.1,i6.2.1,i6.2.2+1))
 (.br (((x4.getD i6.2.2 default).state) == 1)
 (.r 12 .z fun _ =>
 .wi 27 (ar ((i6.2.2:Int)+1)) ((i6.2.2+1:Nat):Int) <|
 .fin (.inr (ar (i6.1+((x4.getD i6.2.2 default).sum)),ar (i6.2.1+((x4.getD i6.2.2 default).sum)),i6.2.2+1)))
 (.r 12 .z fun _ =>
 .wi 27 (ar ((i6.2.2:Int)+1)) ((i6.2.2+1:Nat):Int) <|
 .fin (.inr (i6.1,ar (i6.2.1+((x4.getD i6.2.2 default).sum)),i6.2.2+1)))))
 (.fin (.inl (.inr (i6.1,i6.2.1,(i6.2.2:Int))))))
 (fun (b5:Int × Int × Int)=>⟨[(5,iv b5.1),(6,iv b5.2.1),(27,iv b5.2.2)],[]⟩) fun b5 =>
 .fin (.inr (b5.1,b5.2.1)))
 (fun (b3:Int × Int)=>⟨[(5,iv b3.1),(6,iv b3.2)],[]⟩) fun b3 =>
 .nx 13 14 i2.2.2 (b3.1,b3.2,i2.2.2+1))
 (.fin (.inl (.inr (i2.1,i2.2.1)))))
 (fun (b1:Int × Int)=>⟨[(5,iv b1.1),(6,iv b1.2)],[]⟩) fun b1 =>
 .br (decide (b1.1≥c_.sum))
 (.fin 1)
 (.br (decide (b1.2 < c_.sum))
 (.fin 0)
 (.fin 2))
def EP x_ c_:=(jT x_ c_).val
theorem Bm (x_:cx) (c_:Claim) (hx:x_.zH):(jT x_ c_).bC (fun _=>True):=by
 refine Sk.aR _ ?_
 unfold jT
 simp only [Sk.jt,Sk.aI,reduceCtorEq,ON,kk,kp,oh,maxLen]
 obtain ⟨⟨h1,h2,h3,h4⟩,h5,h6⟩:=hx
 have wi:∀ n m:Nat,n < m→m≤9223372036854775807→ar ((n:Int)+1)=((n+1:Nat):Int):=fun n m h h0=>by rw [aA (by omega) (by omega)]; omega
 simp only [LN]
 refine ⟨Nat.zero_le _,fun i hi hm hc=>⟨⟨⟨by omega,by omega⟩,fun _=>⟨⟨(h5 _ (by omega)).2,(h5 _ (by omega)).1,h2,h1,h3,h4⟩,fun l _ _=>⟨Nat.zero_le _,fun j hj hl hd=>⟨⟨by omega,by omega⟩,fun _=>⟨fun _ _=>⟨wi _ _ (by omega) hl,by omega,by omega⟩,fun _=>⟨fun _ _=>⟨wi _ _ (by omega) hl,by omega,by omega⟩,fun _ _=>⟨wi _ _ (by omega) hl,by omega,by omega⟩⟩⟩⟩⟩⟩⟩,fun b _ _=>⟨wi _ _ (by omega) hm,by omega,by omega⟩⟩⟩
def tZ x_ c_:=kk tok mixed Tryz.func43 [av x_.cells,av c_.cells] (fun x=>iv x) true (jT x_ c_) (EP x_ c_) (Bm x_ c_)
def jU (x_:cx) (c_:Claim):Sk (Int) :=
 .r 1 (.aj (.p (bU x_.s.file x_.files.length)) ((aV (x_.files.getD x_.s.file.toNat default) x_.day).c)) fun _ =>
 .Dw <|
 .KC <|
 .r 15 (.dep ((lU x_ 18 c_ 6).c) fun x2=>.dep ((tZ x_ c_).c) fun x3=>(iG x2 x3).c) fun p5 =>
 .fin p5.2.2
def wJ x_ c_:=(jU x_ c_).val
theorem Bn (x_:cx) (c_:Claim) (hx:x_.zH):(jU x_ c_).bC (fun _=>True):=by
 refine Sk.aR _ ?_
 unfold jU
 simp only [Sk.jt,Sk.aI,reduceCtorEq,ON,kk,kp,iG,aV,lU,tZ,maxLen]
 obtain ⟨⟨h1,h2,h3,h4⟩,h5,h6⟩:=hx
 have h7:=h5 x_.s.file.toNat (by omega)
 have hx:x_.zH:=⟨⟨h1,h2,h3,h4⟩,h5,h6⟩
 all_goals (repeat' first | exact hx | exact h7.1 | exact h7.2 | assumption | (with_reducible apply And.intro) | (intro h))
 all_goals try simp only [LN] at *
 all_goals first | trivial | assumption | omega | (rw [aA (by omega) (by omega)]; omega)
def CG x_ c_:=kk tok mixed Tryz.func22 [av x_.cells,av c_.cells,iv 6] (fun x=>iv x) true (jU x_ c_) (wJ x_ c_) (Bn x_ c_)
def cN (x_:cx) (c_:Claim) (ch:Int):Int:=match ch.toNat with
 | 0=>wD x_ c_
 | 1=>wE x_ c_
 | 2=>wF x_ c_
 | 3=>wG x_ c_
 | 4=>wH x_ c_
 | 5=>wI x_ c_
 | _=>wJ x_ c_
theorem ER (x_:cx) (c_:Claim) (ch:Int) (h:0≤ch∧ch < 7∧x_.zH):gQ Tryz.prog 22 [av x_.cells,av c_.cells,iv ch] [] (iv (cN x_ c_ ch)) []:=by
 have hk:ch=0∨ch=1∨ch=2∨ch=3∨ch=4∨ch=5∨ch=6:=by omega
 rcases hk with rfl | rfl | rfl | rfl | rfl | rfl | rfl
 ·exact (Cz x_ c_).pf h.2.2
 ·exact (CA x_ c_).pf h.2.2
 ·exact (CB x_ c_).pf h.2.2
 ·exact (CD x_ c_).pf h.2.2
 ·exact (CE x_ c_).pf h.2.2
 ·exact (CF x_ c_).pf h.2.2
 ·exact (CG x_ c_).pf h.2.2
def sj (x_:cx) (c_:Claim) (ch:Int):ig (Int):=⟨Tryz.prog,22,[av x_.cells,av c_.cells,iv ch],fun x=>iv x,true,cN x_ c_ ch,0≤ch∧ch < 7∧x_.zH,fun h=>ER x_ c_ ch h,fun _=>True,trivial⟩
def xG (x_:Int):Sk (Int) :=
 .br (x_ == 0)
 (.fin 1)
 (.br (x_ == 1)
 (.fin 0)
 (.fin 2))
def kK x_:=(xG x_).val
theorem UY (x_:Int):(xG x_).bC (fun _=>True):=by
 unfold xG
 exact qS
def AF x_:=kk tok mixed Tryz.func21 [iv x_] (fun x=>iv x) true (xG x_) (kK x_) (u0 (UY x_))
theorem H7 {α:Type} (k k':Int) (v:α):∀ (m:List (Int × α)),nJ (nB m k v) k'=if k'=k then some v else nJ m k'
 | []=>by
  by_cases h:k'=k
  ·simp [nB,nJ,h]
  ·have e:(k' == k)=false:=by simpa using h
   simp [nB,nJ,h,e]
 | p :: r=>by
  by_cases c:k=p.1
  ·have e:(k == p.1)=true:=by simpa using c
   simp only [nB,e,cond_true,nJ]
   by_cases h:k'=p.1
   ·have e':(k' == p.1)=true:=by simpa using h
    simp [e',h,c]
   ·have e':(k' == p.1)=false:=by simpa using h
    simp [e',h,c]
  ·have e:(k == p.1)=false:=by simpa using c
   simp only [nB,e,cond_false,nJ,H7 k k' v r]
   by_cases h:k'=p.1
   ·have e':(k' == p.1)=true:=by simpa using h
    have hk:¬ k'=k:=fun x=>c (x ▸ h)
    simp [e',hk]
   ·have e':(k' == p.1)=false:=by simpa using h
    simp [e']
theorem UZ (k k':Int) (m:List (Int × Bool)):cT (nB m k true) k' false=if k'=k then true else cT m k' false:=by
 unfold cT
 rw [H7]
 split <;> rfl
theorem abE (aq:List cS) (l:List Move) (s:Int × List Int × List (Int × Bool)) (i:Nat) (h:i < l.length):(lx aq l s).1.getD i default=(Jp aq (lx aq (l.take i) s).2 (l.getD i default)).1:=by
 have e:l=l.take (i+1)++l.drop (i+1):=(List.take_append_drop _ _).symm
 have hl:(lx aq (l.take i) s).1.length=i:=by rw [LY,List.length_take]; omega
 rw [congrArg (fun z=>(lx aq z s).1) e,BV,Hc aq l i h]
 simp only [List.getD]
 rw [List.getElem?_append_left (by simp [hl]),List.getElem?_append_right (by omega),hl]
 simp
structure aiE (n:Nat) (s s':Int × List Int × List (Int × Bool)):Prop where
 day:s'.1≤s.1
 len:n < s.2.1.length
 ai1:n < s'.2.1.length
 st:s'.2.1.getD n default=s.2.1.getD n default
 ap:cT s'.2.2 (n:Int) false=cT s.2.2 (n:Int) false
theorem aeJ (aq:List cS) (l:List Move):(lx aq l (uY aq)).2.2.1.length=aq.length:=by
 rw [IE]; simp [uY]
theorem abF {aq:List cS} {m:Move} {day:Int} {st:List Int} {ap:List (Int × Bool)} (h:(uK aq m day st ap).1=0) (k:m.kind=1):0≤m.no∧m.no < 7:=by
 unfold uK at h
 split at h
 ·cases h
 omega
def xH (aq:List cS) (az:List Move) (aL:Int):Int × List Int × List Int × Bool:=Aa aL ((aq.getD aL.toNat default).kind == 1) az (lx aq az (uY aq)).1 az.length
theorem acP (aq:List cS) (az:List Move) (aL:Int) (w:Bool) (n:Nat):n≤az.length→(∀ d,d∈(Aa aL w az (lx aq az (uY aq)).1 n).2.1→0≤d∧d < 7)∧∀ d,d∈(Aa aL w az (lx aq az (uY aq)).1 n).2.2.1→0≤d∧d < 7:=by
 induction n with
 | zero=>exact fun _=>⟨fun d h=>by simp [Aa] at h,fun d h=>by simp [Aa] at h⟩
 | succ n ih =>
  intro hn
  obtain ⟨i1,i2⟩:=ih (by omega)
  simp only [Aa]
  unfold ng
  split
  ·exact ⟨i1,i2⟩
  rename_i h1
  split
  ·rename_i h2
   refine ⟨i1,fun d hd=>?_⟩
   rcases List.mem_append.1 hd with hd | hd
   ·exact i2 d hd
   ·rw [List.mem_singleton.1 hd]
    have he:(lx aq az (uY aq)).1.getD n default=0:=by
     by_cases q:(lx aq az (uY aq)).1.getD n default=0
     ·exact q
     ·exact absurd (.inl q) h1
    rw [abE aq az _ n (by omega)] at he
    exact abF he h2
  split
  ·exact ⟨i1,i2⟩
  split
  ·exact ⟨fun d hd=>i2 d (List.mem_filter.1 hd).1,i2⟩
  ·exact ⟨i1,i2⟩
def awf (x:cx) (c:Claim) (st d:Int):Int:=dN st (kK (dN (cN x c d) (kK (fj x 5 c d))))
def zI (x:cx) (c:Claim) (D:List Int):Int:=D.foldl (awf x c) c.state
def I0 (x:cx) (D:List Int) (bm:List (Int × Int) × List (Int × Bool)) (c:Claim):List (Int × Int) × List (Int × Bool) :=
 if c.bL=x.s.cW∧c.aH=x.s.cV∧c.sign=x.s.sign then (nB bm.1 (zI x c D) (bX (cT bm.1 (zI x c D) 0) c.sum),nB bm.2 (zI x c D) true) else bm
def dx (x:cx) (D:List Int) (l:List Claim):Nat→List (Int × Int) × List (Int × Bool)
 | 0=>([],[])
 | n+1=>I0 x D (dx x D l n) (l.getD n default)
def sB (aL cur:Int) (bm:List (Int × Int) × List (Int × Bool)):vW :=
 if cT bm.2 1 false=true then { aL:=aL,sum:=cT bm.1 1 0,au:=cur,state:=1 } else if cT bm.2 2 false=true then { aL:=aL,sum:=cT bm.1 2 0,au:=cur,state:=2 } else { aL:=aL,sum:=0,au:=cur,state:=0 }
def xI (r:ah) (files:List ak) (s:cS) (day:Int):cx:={ r:=r,forum:=s.forum,day:=day,files:=files,s:=s }
def awT (r:ah) (files:List ak) (s:cS) (aL day:Int) (D:List Int):vW :=
 sB aL (files.getD s.file.toNat default).aU.au (dx (xI r files s day) D (cG r s.forum (files.getD s.file.toNat default) day) (cG r s.forum (files.getD s.file.toNat default) day).length)
def pO (r:ah) (files:List ak) (aq:List cS) (az:List Move) (aL:Int):Sk (vW × Int) :=
 .r 1 ((iP r files aq az).c) fun x1 =>
 .br (x1 != 0)
 (.fin (({ aL:=0,sum:=0,au:=0,state:=0 }:vW),x1))
 (.r 4 ((eW aL ((aq.length:Nat):Int)).c) fun x2 =>
 .br (!x2)
 (.fin (({ aL:=0,sum:=0,au:=0,state:=0 }:vW),4))
 (.r 6 ((sI aq az).c) fun x3 =>
 .r 7 (.p (bU aL x3.1.length)) fun _ =>
 .br ((x3.1.getD aL.toNat default) != 3)
 (.fin (({ aL:=0,sum:=0,au:=0,state:=0 }:vW),7))
 (.r 9 (.p (bU aL aq.length)) fun _ =>
 .r 10 ((uu (aq.getD aL.toNat default) aL az x3.2).c) fun x4 =>
 .r 12 (.o [.aZ (sr dI)]) fun _ =>
 .r 13 (.o [.aZ (sr dB)]) fun _ =>
 .r 14 (.aj (.p (bU ((aq.getD aL.toNat default).file) files.length)) ((oh r ((aq.getD aL.toNat default).forum) (files.getD (((aq.getD aL.toNat default).file).toNat) default) x4.1).c)) fun x5 =>
 .bind true (fun b6=>dx ({ r:=r,forum:=(aq.getD aL.toNat default).forum,day:=x4.1,files:=files,s:=aq.getD aL.toNat default }:cx) x4.2 x5 x5.length=(b6.1,b6.2))
 (.loop (default:Sum (vW × Int) ((List (Int × Int)) × (List (Int × Bool)))) (fun i7=>i7.1≤x5.length∧dx ({ r:=r,forum:=(aq.getD aL.toNat default).forum,day:=x4.1,files:=files,s:=aq.getD aL.toNat default }:cx) x4.2 x5 i7.1=(i7.2.1,i7.2.2)) (fun i7=>x5.length - i7.1) ((0,([]:List (Int × Int)),([]:List (Int × Bool))):Nat × (List (Int × Int)) × (List (Int × Bool)))
 (fun (i7:Nat × (List (Int × Int)) × (List (Int × Bool)))=>⟨[(88,iv (i7.1:Int))],[(75,SK dI i7.2.1),(76,SK dB i7.2.2)]⟩) fun i7 =>
 .lt 86 0 i7.1 x5.length
 (.bind true (fun b8=>(b8.1,b8.2)=I0 ({ r:=r,forum:=(aq.getD aL.toNat default).forum,day:=x4.1,files:=files,s:=aq.getD aL.toNat default }:cx) x4.2 (i7.2.1,i7.2.2) (x5.getD i7.1 default))
 (.r 16 (.p (bU (i7.1:Int) x5.length)) fun _ =>
 .br (((((x5.getD i7.1 default).bL) != ((aq.getD aL.toNat default).cW))||(((x5.getD i7.1 default).aH) != ((aq.getD aL.toNat default).cV)))||(((x5.getD i7.1 default).sign) != ((aq.getD aL.toNat default).sign)))
 (.fin (.inr (i7.2.1,i7.2.2)))
 (.bind true (fun b9=>b9.1=zI ({ r:=r,forum:=(aq.getD aL.toNat default).forum,day:=x4.1,files:=files,s:=aq.getD aL.toNat default }:cx) (x5.getD i7.1 default) x4.2)
 (.loop (default:Sum (Sum (Sum (Sum (vW × Int) ((List (Int × Int)) × (List (Int × Bool)))) (Nat × (List (Int × Int)) × (List (Int × Bool)))) ((List (Int × Int)) × (List (Int × Bool)))) (Int × Int)) (fun i10=>i10.2≤x4.2.length∧i10.1=(x4.2.take i10.2).foldl (awf ({ r:=r,forum:=(aq.getD aL.toNat default).forum,day:=x4.1,files:=files,s:=aq.getD aL.toNat default }:cx) (x5.getD i7.1 default)) (x5.getD i7.1 default).state) (fun i10=>x4.2.length - i10.2) (((x5.getD i7.1 default).state,0):Int × Nat)
 (fun (i10:Int × Nat)=>⟨[(23,iv i10.1),(115,iv (i10.2:Int))],[]⟩) fun i10 =>
 .lt 17 0 i10.2 x4.2.length
 (.r 21 (.p (bU (i10.2:Int) x4.2.length)) fun _ =>
 .r 22 (.dep ((sj ({ r:=r,forum:=(aq.getD aL.toNat default).forum,day:=x4.1,files:=files,s:=aq.getD aL.toNat default }:cx) (x5.getD i7.1 default) (x4.2.getD i10.2 default)).c) fun x11=>.dep ((lU ({ r:=r,forum:=(aq.getD aL.toNat default).forum,day:=x4.1,files:=files,s:=aq.getD aL.toNat default }:cx) 5 (x5.getD i7.1 default) (x4.2.getD i10.2 default)).c) fun x12=>.dep ((AF x12).c) fun J7=>.dep ((iG x11 J7).c) fun x14=>.dep ((AF x14).c) fun x15=>(iG i10.1 x15).c) fun p17 =>
 .nx 23 115 i10.2 (p17.2.2.2.2.2,i10.2+1))
 (.fin (.inl (.inr (i10.1,(i10.2:Int))))))
 (fun (b9:Int × Int)=>⟨[(23,iv b9.1),(115,iv b9.2)],[]⟩) fun b9 =>
 .r 24 (.aj (.aj (.t (pq dI i7.2.1)) (.o [.cast 139 (getM dI i7.2.1 b9.1 (0:Int))])) (.aj (.aj (.t (pq dI i7.2.1)) (.o [.aZ (Wp dI i7.2.1 b9.1 (bX (cT i7.2.1 b9.1 (0:Int)) ((x5.getD i7.1 default).sum)))])) (.aj (.t (pq dB i7.2.2)) (.o [.aZ (Wp dB i7.2.2 b9.1 true)])))) fun _ =>
 .fin (.inr (nB i7.2.1 b9.1 (bX (cT i7.2.1 b9.1 (0:Int)) ((x5.getD i7.1 default).sum)),nB i7.2.2 b9.1 true))))
 (fun (b8:(List (Int × Int)) × (List (Int × Bool)))=>⟨[],[(75,SK dI b8.1),(76,SK dB b8.2)]⟩) fun b8 =>
 .nx 25 88 i7.1 (i7.1+1,b8.1,b8.2))
 (.fin (.inl (.inr (i7.2.1,i7.2.2)))))
 (fun (b6:(List (Int × Int)) × (List (Int × Bool)))=>⟨[],[(75,SK dI b6.1),(76,SK dB b6.2)]⟩) fun b6 =>
 .r 26 (.p (bU ((aq.getD aL.toNat default).file) files.length)) fun _ =>
 .r 27 (.o [.eG (fm dm [1,2])]) fun _ =>
 .bind true (fun b18=>cT b6.2 1 false=false∧cT b6.2 2 false=false)
 (.loop (default:Sum (vW × Int) (Unit)) (fun i19=>i19≤2∧(0 < i19→cT b6.2 1 false=false)∧(1 < i19→cT b6.2 2 false=false)) (fun i19=>[1,2].length - i19) (0:Nat)
 (fun (i19:Nat)=>⟨[(155,iv (i19:Int))],[]⟩) fun i19 =>
 .lt 153 0 i19 ([1,2].length)
 (.r 29 (.aj (.p (bU (i19:Int) ([1,2].length))) (.p (i19 < [1,2].length))) fun _ =>
 .r 30 (.aj (.t (pq dB b6.2)) (.o [.cast 161 (getM dB b6.2 ([1,2].getD i19 default) false)])) fun _ =>
 .br (cT b6.2 ([1,2].getD i19 default) false)
 (.r 31 (.aj (.t (pq dI b6.1)) (.o [.cast 165 (getM dI b6.1 ([1,2].getD i19 default) (0:Int))])) fun _ =>
 .fin (.inl (.inl (({ aL:=aL,sum:=cT b6.1 ([1,2].getD i19 default) (0:Int),au:=((files.getD (((aq.getD aL.toNat default).file).toNat) default).aU).au,state:=[1,2].getD i19 default }:vW),0))))
 (.nx 33 155 i19 (i19+1)))
 (.fin (.inl (.inr ()))))
 (fun (_:Unit)=>⟨[],[]⟩) fun _ =>
 .fin (({ aL:=aL,sum:=0,au:=((files.getD (((aq.getD aL.toNat default).file).toNat) default).aU).au,state:=0 }:vW),0))))
def AG r files aq az aL:=(pO r files aq az aL).val
theorem CH (r:ah) (files:List ak) (aq:List cS) (az:List Move) (aL:Int):(pO r files aq az aL).dj (fun (x:vW × Int)=>nN r files aq az=0→(0≤aL∧aL < aq.length)→(lx aq az (uY aq)).2.2.1.getD aL.toNat default=3→x=(awT r files (aq.getD aL.toNat default) aL (xH aq az aL).1 (xH aq az aL).2.1,0)):=by
 refine Sk.bz _ ?_
 unfold pO
 simp only [Sk.de,Sk.aI,reduceCtorEq,ON,kk,kp,iG,oh,iP,sI,lU,sj,eW,uu,AF,qF,forall_eq,maxLen]
 generalize hR:LZ aq az=x3
 generalize hJ:xU (aq.getD aL.toNat default) aL az x3.2=x4
 generalize hL:cG r (aq.getD aL.toNat default).forum (files.getD (aq.getD aL.toNat default).file.toNat default) x4.1=x5
 generalize hs:aq.getD aL.toNat default=s
 generalize hX:({ r:=r,forum:=s.forum,day:=x4.1,files:=files,s:=s }:cx)=X
 simp only [LN]
 refine fun _=>⟨fun h1 h2=>absurd h2 h1,fun h1=>⟨fun h2 _ h3=>absurd h3 (by omega),fun h2 h3 _=>⟨fun h4 _ _ h5=>absurd (by rw [h3]; exact h5) h4,fun h4 _ h5 _ _ _=>?_⟩⟩⟩
 have e1:(xH aq az aL).1=x4.1:=by rw [h5,h3]; unfold xH; rw [hs]
 have e2:(xH aq az aL).2.1=x4.2:=by rw [h5,h3]; unfold xH; rw [hs]
 have hA:awT r files s aL (xH aq az aL).1 (xH aq az aL).2.1=sB aL (files.getD s.file.toNat default).aU.au (dx X x4.2 x5 x5.length):=by
  rw [e1,e2]; unfold awT xI; rw [hX]; rw [hs] at hL; rw [hL]
 rw [hA]
 have hXs:X.s=s:=by rw [← hX]
 refine ⟨⟨⟨Nat.zero_le _,rfl⟩,fun i hi=>⟨fun hc=>⟨fun _=>⟨fun h=>?_,fun h=>⟨⟨⟨Nat.zero_le _,rfl⟩,fun j hj=>⟨fun hd _ _=>⟨⟨by omega,?_⟩,by omega⟩,fun hd=>?_⟩⟩,fun b hb _=>?_⟩⟩,fun b _ hb _=>⟨⟨by omega,?_⟩,by omega⟩⟩,fun hc=>?_⟩⟩,fun b hb _ _=>⟨⟨⟨by omega,fun q=>absurd q (by omega),fun q=>absurd q (by omega)⟩,fun i hi=>⟨fun hc _ _=>⟨fun hm _ _ _ _=>?_,fun hm _=>⟨⟨by omega,fun _=>?_,fun _=>?_⟩,by omega⟩⟩,fun hc=>⟨hi.2.1 (by omega),hi.2.2 (by omega)⟩⟩⟩,fun _ hn _ _ _=>?_⟩⟩
 ·unfold I0; rw [hXs,if_neg (fun q=>h.elim (fun a=>a.elim (fun a=>a q.1) (fun a=>a q.2.1)) (fun a=>a q.2.2))]
 ·rw [qU (by omega),List.foldl_append,← hj.2]; rfl
 ·rw [hj.2,List.take_of_length_le (by omega)]; rfl
 ·unfold I0; rw [hXs,if_pos ⟨h.1.1,h.1.2,h.2⟩,hb]
 ·simp only [dx]; rw [hi.2]; exact hb.symm
 ·have e:i.1=x5.length:=by omega
  have:=hi.2
  rwa [e] at this
 ·rw [hb]
  unfold sB
  have hk:i=0∨i=1:=by omega
  rcases hk with rfl | rfl
  ·have Bq:cT b.2 1 false=true:=hm
   rw [if_pos Bq]; rfl
  ·have Bq:cT b.2 2 false=true:=hm
   rw [if_neg (by rw [hi.2.1 (by omega)]; simp),if_pos Bq]; rfl
 ·by_cases h0:0 < i
  ·exact hi.2.1 h0
  ·have:i=0:=by omega
   subst this; exact hm
 ·have hk:i=1∨1 < i:=by omega
  rcases hk with rfl | h0
  ·exact hm
  ·exact hi.2.2 h0
 ·rw [hb]; unfold sB; rw [if_neg (by rw [hn.1]; simp),if_neg (by rw [hn.2]; simp)]
theorem Kl (r:ah) (files:List ak) (aq:List cS) (az:List Move) (aL:Int):(fun (x:vW × Int)=>nN r files aq az=0→(0≤aL∧aL < aq.length)→(lx aq az (uY aq)).2.2.1.getD aL.toNat default=3→x=(awT r files (aq.getD aL.toNat default) aL (xH aq az aL).1 (xH aq az aL).2.1,0)) (AG r files aq az aL):=have h:=Sk.dk _ (CH r files aq az aL); h
theorem Pp (r:ah) (files:List ak) (aq:List cS) (az:List Move) (aL:Int) (hr:r.Small) (hb:r.cj) (hfi:r.il) (hra:r.dg) (hl:r.bu.length≤200) (hf:files.length≤50→∀ q,q < files.length→(files.getD q default).Small):(pO r files aq az aL).bC (fun _=>True):=by
 refine Sk.aR _ ?_
 unfold pO
 simp only [Sk.jt,Sk.aI,reduceCtorEq,ON,kk,kp,iG,oh,iP,sI,lU,sj,eW,uu,AF,qF,forall_eq,maxLen]
 generalize hR:LZ aq az=x3
 generalize hJ:xU (aq.getD aL.toNat default) aL az x3.2=x4
 generalize hL:cG r (aq.getD aL.toNat default).forum (files.getD (aq.getD aL.toNat default).file.toNat default) x4.1=x5
 generalize hs:aq.getD aL.toNat default=s
 generalize hX:({ r:=r,forum:=s.forum,day:=x4.1,files:=files,s:=s }:cx)=X
 simp only [LN]
 refine ⟨hr,fun hck h1 h2=>?_⟩
 obtain ⟨⟨c1,c2,c3⟩,c4,c5⟩:=hck.1 h1
 refine ⟨⟨by omega,by omega⟩,fun h3=>?_⟩
 have ai2:x3.1.length=aq.length:=by rw [h3]; exact aeJ aq az
 have aif:x3.2.length=az.length:=by rw [h3]; exact LY _ _ _
 have hXs:X.s=s:=by rw [← hX]
 have hS:sK r files.length s:=by rw [← hs]; exact c5 aL.toNat (by omega)
 have abG:0≤s.file∧s.file < (files.length:Int):=by unfold sK at hS; omega
 have hF:∀ q,q < files.length→(files.getD q default).Small∧cb r (files.getD q default):=fun q hq=>⟨hf c1 q hq,(lD r _ hl (c4 q hq)).1⟩
 have hXf:X.zH:=by rw [← hX]; exact ⟨⟨hr,hb,hfi,hra⟩,hF,abG⟩
 have hs7:=hF s.file.toNat (by omega)
 refine ⟨⟨by omega,by omega⟩,fun _ h4=>⟨⟨by omega,by omega⟩,fun _=>⟨⟨aif,by omega⟩,fun h5 _ _=>?_⟩⟩⟩
 have hD:∀ k,k < x4.2.length→0≤x4.2.getD k default∧x4.2.getD k default < 7:=by
  intro k hk
  have h:=(acP aq az aL (s.kind == 1) az.length (Nat.le_refl _)).1
  have e:x4.2=(Aa aL (s.kind == 1) az (lx aq az (uY aq)).1 az.length).2.1:=by rw [h5,h3]
  rw [← e] at h
  refine h _ ?_
  rw [List.getD_eq_getElem?_getD,List.getElem?_eq_getElem hk]
  exact List.getElem_mem _
 have wi:∀ n m:Nat,n < m→m≤9223372036854775807→ar ((n:Int)+1)=((n+1:Nat):Int):=fun n m h h0=>by rw [aA (by omega) (by omega)]; omega
 refine ⟨⟨⟨by omega,by omega⟩,hs7.2,hs7.1,hb,hr,hfi,hra⟩,fun _=>⟨⟨⟨Nat.zero_le _,rfl⟩,fun i hi hm=>⟨fun hc=>⟨⟨⟨by omega,by omega⟩,fun _=>⟨fun h=>?_,fun h=>⟨⟨⟨Nat.zero_le _,rfl⟩,fun j hj hm2=>⟨fun hd=>⟨⟨by omega,by omega⟩,fun _=>⟨⟨⟨(hD _ (by omega)).1,(hD _ (by omega)).2,hXf⟩,hXf⟩,fun _=>⟨wi _ _ (by omega) hm2,⟨by omega,?_⟩,by omega⟩⟩⟩,fun hd=>?_⟩⟩,fun b hb _=>?_⟩⟩⟩,fun b _ hb _=>⟨wi _ _ (by omega) hm,⟨by omega,?_⟩,by omega⟩⟩,fun hc=>?_⟩⟩,fun b hb=>⟨⟨by omega,by omega⟩,fun _ _=>⟨⟨by omega,fun q=>absurd q (by omega),fun q=>absurd q (by omega)⟩,fun i hi _=>⟨fun hc=>⟨⟨⟨by omega,by omega⟩,by omega⟩,fun _ _ hm _=>⟨wi _ 2 (by omega) (by omega),⟨by omega,fun _=>?_,fun _=>?_⟩,by omega⟩⟩,fun hc=>⟨hi.2.1 (by omega),hi.2.2 (by omega)⟩⟩⟩⟩⟩⟩
 ·unfold I0; rw [hXs,if_neg (fun q=>h.elim (fun a=>a.elim (fun a=>a q.1) (fun a=>a q.2.1)) (fun a=>a q.2.2))]
 ·rw [qU (by omega),List.foldl_append,← hj.2]; rfl
 ·rw [hj.2,List.take_of_length_le (by omega)]; rfl
 ·unfold I0; rw [hXs,if_pos ⟨h.1.1,h.1.2,h.2⟩,hb]
 ·simp only [dx]; rw [hi.2]; exact hb.symm
 ·have e:i.1=x5.length:=by omega
  have:=hi.2
  rwa [e] at this
 ·by_cases h0:0 < i
  ·exact hi.2.1 h0
  ·have:i=0:=by omega
   subst this; exact hm
 ·have hk:i=1∨1 < i:=by omega
  rcases hk with rfl | h0
  ·exact hm
  ·exact hi.2.2 h0
def pd r files aq az aL:=kp tok mixed Tryz.func8 [av r.cells,lv ak.cells files,lv cS.cells aq,lv Move.cells az,iv aL] (fun x=>.fD [av x.1.cells,iv x.2]) true (AG r files aq az aL) (u6 (Pp r files aq az aL)) (CH r files aq az aL)
def vj:Sk (Bool) :=
 .r 1 (.o [.eG (fm cS.E [({ forum:=0,cV:=0,cW:=0,file:=0,sign:=0,day:=5,kind:=0 }:cS),({ forum:=0,cV:=0,cW:=0,file:=0,sign:=0,day:=9,kind:=0 }:cS)])]) fun _ =>
 .fz 12 <|
 .r 2 (.aj (.aj (.o [.pur 20]) (.o [.eG (fm Move.E [({ kind:=0,aL:=0,day:=5,no:=0 }:Move),({ kind:=2,aL:=0,day:=6,no:=0 }:Move),({ kind:=4,aL:=0,day:=7,no:=0 }:Move),({ kind:=3,aL:=0,day:=8,no:=0 }:Move),({ kind:=4,aL:=0,day:=9,no:=0 }:Move)])])) ((sI [({ forum:=0,cV:=0,cW:=0,file:=0,sign:=0,day:=5,kind:=0 }:cS),({ forum:=0,cV:=0,cW:=0,file:=0,sign:=0,day:=9,kind:=0 }:cS)] [({ kind:=0,aL:=0,day:=5,no:=0 }:Move),({ kind:=2,aL:=0,day:=6,no:=0 }:Move),({ kind:=4,aL:=0,day:=7,no:=0 }:Move),({ kind:=3,aL:=0,day:=8,no:=0 }:Move),({ kind:=4,aL:=0,day:=9,no:=0 }:Move)]).c)) fun x1 =>
 .r 3 (.aj (.aj (.o [.pur 31]) (.o [.eG (fm Move.E [({ kind:=0,aL:=1,day:=8,no:=0 }:Move),({ kind:=0,aL:=1,day:=9,no:=0 }:Move),({ kind:=0,aL:=0,day:=6,no:=0 }:Move),({ kind:=6,aL:=1,day:=10,no:=0 }:Move),({ kind:=5,aL:=1,day:=11,no:=0 }:Move)])])) ((sI [({ forum:=0,cV:=0,cW:=0,file:=0,sign:=0,day:=5,kind:=0 }:cS),({ forum:=0,cV:=0,cW:=0,file:=0,sign:=0,day:=9,kind:=0 }:cS)] [({ kind:=0,aL:=1,day:=8,no:=0 }:Move),({ kind:=0,aL:=1,day:=9,no:=0 }:Move),({ kind:=0,aL:=0,day:=6,no:=0 }:Move),({ kind:=6,aL:=1,day:=10,no:=0 }:Move),({ kind:=5,aL:=1,day:=11,no:=0 }:Move)]).c)) fun x2 =>
 .r 4 (.aj (.o [.eG (fm dm [3,0])]) (.dep ((vV x1.1 [3,0]).c) fun x3=>.aj (.wh x3 true (.o [.eG (fm dm [0,0,7,0,0])])) (.wh x3 true ((sJ x1.2 [0,0,7,0,0]).c)))) fun NS =>
 .r 5 (.aj (.o [.eG (fm dm [0,5])]) (.dep ((vV x2.1 [0,5]).c) fun x5=>.aj (.wh x5 true (.o [.eG (fm dm [13,0,13,0,7])])) (.wh x5 true ((sJ x2.2 [13,0,13,0,7]).c)))) fun p9 =>
 .r 6 (((((((((((((pd ({ cz:=[],aN:=[],gh:=[],bu:=[],aE:=[],bg:=[],bV:=[],eR:=[] }:ah) [] [] [] 0).ou 0 0 _ rfl ⟨_,rfl⟩).ou 0 1 _ rfl ⟨_,rfl⟩).ou 0 2 _ rfl ⟨_,rfl⟩).ou 0 3 _ rfl ⟨_,rfl⟩).ou 0 4 _ rfl ⟨_,rfl⟩).ou 0 5 _ rfl ⟨_,rfl⟩).ou 0 6 _ rfl ⟨_,rfl⟩).ou 0 7 _ rfl ⟨_,rfl⟩).nil 1 ⟨_,rfl⟩).nil 2 ⟨_,rfl⟩).nil 3 ⟨_,rfl⟩).c) fun x7 =>
 .r 7 (.wh (((NS.1&&NS.2)&&(p9.1&&p9.2))&&(x7.2 == 4)) true ((((((((((((iP ({ cz:=[],aN:=[],gh:=[],bu:=[],aE:=[],bg:=[],bV:=[],eR:=[] }:ah) [] [({ forum:=0,cV:=0,cW:=0,file:=0,sign:=0,day:=5,kind:=0 }:cS),({ forum:=0,cV:=0,cW:=0,file:=0,sign:=0,day:=9,kind:=0 }:cS)] []).ou 0 0 _ rfl ⟨_,rfl⟩).ou 0 1 _ rfl ⟨_,rfl⟩).ou 0 2 _ rfl ⟨_,rfl⟩).ou 0 3 _ rfl ⟨_,rfl⟩).ou 0 4 _ rfl ⟨_,rfl⟩).ou 0 5 _ rfl ⟨_,rfl⟩).ou 0 6 _ rfl ⟨_,rfl⟩).ou 0 7 _ rfl ⟨_,rfl⟩).nil 1 ⟨_,rfl⟩).nil 3 ⟨_,rfl⟩).c)) fun x8 =>
 .fin ((((NS.1&&NS.2)&&(p9.1&&p9.2))&&(x7.2 == 4))&&(x8 == 1))
def H8:Bool:=(vj).val
theorem Nl:(fun (x:Bool)=>x=true) (H8):=(show H8=true by kernel_rfl)
theorem Sf:(vj).bC (fun _=>True):=by
 unfold vj
 try simp only [sJ,vV,pd,iP,sI,ak.Small,ah.Small,ah.cj,ah.il,ah.dg]
 exact mz
def CI:ig (Bool):=kk tok mixed Tryz.func4 [] (fun x=>bv x) true (vj) (H8) (fun (_:True)=>Sf) (fun (x:Bool)=>x=true) (Nl)
def wK (r:ah):Sk (Bool) :=
 .bt
 (.loop (default:Sum (Bool) (Unit)) (fun i2=>i2≤r.aN.length) (fun i2=>r.aN.length - i2) (0:Nat)
 (fun (i2:Nat)=>⟨[(3,iv (i2:Int))],[]⟩) fun i2 =>
 .GG 1 1 r.aN.length <|
 .br ((decide ((i2:Int) < ((r.aN.length:Nat):Int)))&&(decide ((i2:Int) < 50)))
 (.r 4 (.aj (.p (bU (i2:Int) r.aN.length)) (.aj (.wh (decide (((((r.aN.getD i2 default).gS).length:Nat):Int) > 70)) false (.p (bU (i2:Int) r.aN.length))) (.wh ((decide (((((r.aN.getD i2 default).gS).length:Nat):Int) > 70))||(decide (((((r.aN.getD i2 default).shut).length:Nat):Int) > 210))) false (.p (bU (i2:Int) r.aN.length))))) fun _ =>
 .br (((decide (((((r.aN.getD i2 default).gS).length:Nat):Int) > 70))||(decide (((((r.aN.getD i2 default).shut).length:Nat):Int) > 210)))||(decide (((((r.aN.getD i2 default).rest).length:Nat):Int) > 8)))
 (.fin (.inl (.inl false)))
 (.nx 3 3 i2 (i2+1)))
 (.fin (.inl (.inr ()))))
 (fun (_:Unit)=>⟨[],[]⟩) fun _ =>
 .bind true (fun b3=>∀ k,k < r.aE.length→k < 50→(r.aE.getD k default).ba.length≤40∧(r.aE.getD k default).rules.length≤40)
 (.loop (default:Sum (Bool) (Unit)) (fun i4=>(∀ k,k < i4→(r.aE.getD k default).ba.length≤40∧(r.aE.getD k default).rules.length≤40)∧i4≤r.aE.length) (fun i4=>r.aE.length - i4) (0:Nat)
 (fun (i4:Nat)=>⟨[(4,iv (i4:Int))],[]⟩) fun i4 =>
 .GG 1 4 r.aE.length <|
 .br ((decide ((i4:Int) < ((r.aE.length:Nat):Int)))&&(decide ((i4:Int) < 50)))
 (.r 9 (.aj (.p (bU (i4:Int) r.aE.length)) (.wh (decide (((((r.aE.getD i4 default).ba).length:Nat):Int) > 40)) false (.p (bU (i4:Int) r.aE.length)))) fun _ =>
 .br ((decide (((((r.aE.getD i4 default).ba).length:Nat):Int) > 40))||(decide (((((r.aE.getD i4 default).rules).length:Nat):Int) > 40)))
 (.fin (.inl (.inl false)))
 (.nx 8 4 i4 (i4+1)))
 (.fin (.inl (.inr ()))))
 (fun (_:Unit)=>⟨[],[]⟩) fun _ =>
 .fin ((((((((decide (((r.cz.length:Nat):Int) < 50))&&(decide (((r.aN.length:Nat):Int) < 50)))&&(decide (((r.gh.length:Nat):Int) < 50)))&&(decide (((r.bu.length:Nat):Int) < 210)))&&(decide (((r.aE.length:Nat):Int) < 50)))&&(decide (((r.bg.length:Nat):Int) < 110)))&&(decide (((r.bV.length:Nat):Int) < 110)))&&(decide (((r.eR.length:Nat):Int) < 50)))
def acQ r:=(wK r).val
theorem U0 (r:ah):(wK r).dj (fun (x:Bool)=>x=true→r.Small):=by
 unfold wK
 try simp only [ak.Small,ah.Small]
 exact Fw
theorem WW (r:ah):(wK r).bC (fun _=>True):=by
 unfold wK
 try simp only [ak.Small,ah.Small]
 exact mz
def H9 r:=kp tok mixed Tryz.func48 [av r.cells] (fun x=>bv x) true (acQ r) (u0 (WW r)) (U0 r)
def wL (f:ak):Sk (Bool) :=
 .fin ((((decide (((f.af.length:Nat):Int)≤50))&&(decide (((f.bn.length:Nat):Int)≤10)))&&(decide (((f.aw.length:Nat):Int)≤110)))&&(decide (((f.facts.length:Nat):Int)≤220)))
def Yh f:=(wL f).val
theorem Nm (f:ak):Yh f=((((decide (((f.af.length:Nat):Int)≤50))&&(decide (((f.bn.length:Nat):Int)≤10)))&&(decide (((f.aw.length:Nat):Int)≤110)))&&(decide (((f.facts.length:Nat):Int)≤220))):=rfl
theorem U1 (f:ak):(wL f).dj (fun (x:Bool)=>x=true→f.Small):=by
 unfold wL
 try simp only [ak.Small,ah.Small]
 exact Fw
theorem WX (f:ak):(wL f).bC (fun _=>True):=by
 unfold wL
 try simp only [ak.Small,ah.Small]
 exact qS
def Ia f:=kp tok mixed Tryz.func49 [av f.cells] (fun x=>bv x) true (Yh f) (u0 (WX f)) (U1 f)
def I1 (rv:Term→Int→Int→Int) (rp:Term→Int→Int→Prop) (rf:∀ (t:Term) (n:Int) (levels:Int),rp t n levels→gQ Tryz.prog 110 [av t.cells,iv n,iv levels] [] (iv (rv t n levels)) []) (t:Term) (n:Int) (levels:Int):ig (Int):=⟨Tryz.prog,110,[av t.cells,iv n,iv levels],fun x=>iv x,true,rv t n levels,rp t n levels,rf t n levels,fun _=>True,trivial⟩
def ri (rv:Term→Int→Int→Int) (rp:Term→Int→Int→Prop) (rf:∀ (t:Term) (n:Int) (levels:Int),rp t n levels→gQ Tryz.prog 110 [av t.cells,iv n,iv levels] [] (iv (rv t n levels)) []) (t:Term) (n:Int) (levels:Int):Sk (Int) :=
 .br (decide (levels < 1))
 (.fin (-1))
 (.bt
 (.loop (default:Sum (Int) (Int)) (fun i2=>i2.2≤t.args.length) (fun i2=>t.args.length - i2.2) ((ar (n - 1),0):Int × Nat)
 (fun (i2:Int × Nat)=>⟨[(1,iv i2.1),(7,iv (i2.2:Int))],[]⟩) fun i2 =>
 .GG 3 2 t.args.length <|
 .br ((decide ((i2.2:Int) < ((t.args.length:Nat):Int)))&&(decide (i2.1≥0)))
 (.r 7 (.aj (.aj (.p (bU (i2.2:Int) t.args.length)) (.o [.cast 26 (acC (Term.LM (t.args.getD i2.2 default)))])) ((I1 rv rp rf (t.args.getD i2.2 default) i2.1 (ar (levels - 1))).c)) fun x3 =>
 .nx 6 7 i2.2 (x3,i2.2+1))
 (.fin (.inl (.inr i2.1))))
 (fun (b1:Int)=>⟨[(1,iv b1)],[]⟩) fun b1 =>
 .fin b1)
def kT:Nat→Term→Int→Int→Int
 | 0,_,_,_=>default
 | fu+1,t,n,levels=>(ri (kT fu) (fun _ _ _=>False) (fun _ _ _=>fun h=>h.elim) t n levels).val
theorem U2 (fu:Nat) (rf:∀ (t:Term) (n:Int) (levels:Int),t.depth≤fu∧True→gQ Tryz.prog 110 [av t.cells,iv n,iv levels] [] (iv (kT fu t n levels)) []) (t:Term) (n:Int) (levels:Int) (hm:t.depth≤fu+1):(ri (kT fu) (fun t n levels=>t.depth≤fu∧True) rf t n levels).bC (fun _=>True):=by
 refine Sk.aR _ ?_
 unfold ri
 simp only [Sk.jt,Sk.aI,reduceCtorEq,ON,kk,kp,I1,maxLen]
 all_goals (repeat' first | assumption | (apply And.intro) | (intro h))
 all_goals first | trivial | assumption | omega | (refine Nat.le_of_lt_succ (Nat.lt_of_lt_of_le (Term.l8 t _ (by (try simp only [LN] at *); omega)) hm)) | ((try simp only [LN] at *) <;> first | omega | (refine (aA ?_ ?_).trans ?_ <;> omega) | (simp (disch:=omega) only [aA] at *; omega) | (grind) | (simp_all; done) | (simp_all; omega))
theorem Sg (fu:Nat) (rp:Term→Int→Int→Prop) (rf:∀ (t:Term) (n:Int) (levels:Int),rp t n levels→gQ Tryz.prog 110 [av t.cells,iv n,iv levels] [] (iv (kT fu t n levels)) []) (t:Term) (n:Int) (levels:Int):(ri (kT fu) rp rf t n levels).val=kT (fu+1) t n levels:=by kernel_rfl
theorem Sh (fu:Nat):∀ (t:Term) (n:Int) (levels:Int),t.depth≤fu→gQ Tryz.prog 110 [av t.cells,iv n,iv levels] [] (iv (kT fu t n levels)) []:=by
 induction fu with
 | zero=>intro t n levels hm; exact absurd hm (by have:=Term.vz t; omega)
 | succ fu ih =>
  intro t n levels hm
  have h:gQ Tryz.prog 110 [av t.cells,iv n,iv levels] [] (iv ((ri (kT fu) (fun t n levels=>t.depth≤fu∧True) (fun t n levels h=>ih t n levels h.1) t n levels).val)) []:=gQ.sk tok mixed (fun x=>iv x) (fun _=>[]) Tryz.func110 rfl (by kernel_rfl) 3000 (ri (kT fu) (fun t n levels=>t.depth≤fu∧True) (fun t n levels h=>ih t n levels h.1) t n levels) (by kernel_rfl) (U2 fu _ t n levels hm)
  rw [Sg] at h
  exact h
def U3 (t:Term) (n:Int) (levels:Int):Int:=kT (t.depth) t n levels
theorem U4 (t:Term) (n:Int) (levels:Int):gQ Tryz.prog 110 [av t.cells,iv n,iv levels] [] (iv (U3 t n levels)) []:=Sh _ t n levels (Nat.le_refl _)
def Nn (t:Term) (n:Int) (levels:Int):ig (Int):=⟨Tryz.prog,110,[av t.cells,iv n,iv levels],fun x=>iv x,true,U3 t n levels,True,fun _=>U4 t n levels,fun _=>True,trivial⟩
def AH (t:Term):Sk (Bool) :=
 .r 1 ((Nn t 100 20).c) fun x1 =>
 .fin (decide (x1≥0))
def acR t:=(AH t).val
theorem WY (t:Term):(AH t).bC (fun _=>True):=by
 unfold AH
 try simp only [Nn]
 exact qS
def Qp t:=kk tok mixed Tryz.func74 [av t.cells] (fun x=>bv x) true (AH t) (acR t) (u0 (WY t))
def AI (o:Order):Sk (Bool) :=
 .br ((decide (((o.rules.length:Nat):Int) > 60))||(decide (((o.ba.length:Nat):Int) > 60)))
 (.fin false)
 (.bt
 (.loop (default:Sum (Bool) (Unit)) (fun i2=>i2≤o.rules.length) (fun i2=>o.rules.length - i2) (0:Nat)
 (fun (i2:Nat)=>⟨[(3,iv (i2:Int))],[]⟩) fun i2 =>
 .lt 1 3 i2 o.rules.length
 (.r 6 (.aj (.p (bU (i2:Int) o.rules.length)) ((Qp ((o.rules.getD i2 default).term)).c)) fun x3 =>
 .br (!x3)
 (.fin (.inl (.inl false)))
 (.nx 5 3 i2 (i2+1)))
 (.fin (.inl (.inr ()))))
 (fun (_:Unit)=>⟨[],[]⟩) fun _ =>
 .fin true)
def acS o:=(AI o).val
theorem WZ (o:Order):(AI o).bC (fun _=>True):=by
 unfold AI
 try simp only [Qp]
 exact mz
def Ib o:=kk tok mixed Tryz.func50 [av o.cells] (fun x=>bv x) true (AI o) (acS o) (u0 (WZ o))
def wM (r:ah) (f:ak):Sk (Bool) :=
 .r 1 (.dep ((H9 r).c) fun x1=>.wh (!x1) false ((Ia f).c)) fun p6 =>
 .br ((!p6.1)||(!p6.2))
 (.fin false)
 (.bt
 (.loop (default:Sum (Bool) (Unit)) (fun i4=>i4≤r.aE.length) (fun i4=>r.aE.length - i4) (0:Nat)
 (fun (i4:Nat)=>⟨[(5,iv (i4:Int))],[]⟩) fun i4 =>
 .lt 2 4 i4 r.aE.length
 (.r 6 (.aj (.p (bU (i4:Int) r.aE.length)) ((Ib (r.aE.getD i4 default)).c)) fun x5 =>
 .br (!x5)
 (.fin (.inl (.inl false)))
 (.nx 5 5 i4 (i4+1)))
 (.fin (.inl (.inr ()))))
 (fun (_:Unit)=>⟨[],[]⟩) fun _ =>
 .fin true)
def acT r f:=(wM r f).val
theorem U5 (r:ah) (f:ak):(wM r f).dj (fun (x:Bool)=>x=true→r.Small∧f.Small):=by
 unfold wM
 try simp only [H9,Ia,Ib,Nm,ak.Small,ah.Small]
 exact Wt
theorem W6 (r:ah) (f:ak):(wM r f).bC (fun _=>True):=by
 unfold wM
 try simp only [H9,Ia,Ib,Nm,ak.Small,ah.Small]
 exact Br
def Dl r f:=kp tok mixed Tryz.func26 [av r.cells,av f.cells] (fun x=>bv x) true (acT r f) (u0 (W6 r f)) (U5 r f)
def wN (r:ah) (files:List ak) (aq:List cS) (az:List Move):Sk (Bool) :=
 .bind true (fun b1=>files.length≤3→∀ q,q < files.length→(files.getD q default).Small)
 (.loop (default:Sum (Bool) (Unit)) (fun i2=>i2≤files.length∧∀ q,q < i2→(files.getD q default).Small) (fun i2=>files.length - i2) (0:Nat)
 (fun (i2:Nat)=>⟨[(9,iv (i2:Int))],[]⟩) fun i2 =>
 .GG 1 0 files.length <|
 .br ((decide ((i2:Int) < ((files.length:Nat):Int)))&&(decide ((i2:Int) < 3)))
 (.r 4 (.aj (.p (bU (i2:Int) files.length)) (.py ((Dl r (files.getD i2 default)).c) fun x3=>.aj (.wh (!x3) false (.p (bU (i2:Int) files.length))) (.wh ((!x3)||(decide (((((files.getD i2 default).af).length:Nat):Int) > 20))) false (.p (bU (i2:Int) files.length))))) fun x3 =>
 .br (((!x3)||(decide (((((files.getD i2 default).af).length:Nat):Int) > 20)))||(decide (((((files.getD i2 default).aw).length:Nat):Int) > 30)))
 (.fin (.inl (.inl false)))
 (.nx 3 9 i2 (i2+1)))
 (.fin (.inl (.inr ()))))
 (fun (_:Unit)=>⟨[],[]⟩) fun _ =>
 .r 6 ((((((Dl r ({ aU:=({ BS:=0,mZ:=0,gj:=0,sum:=0,au:=0,df:=({ kind:=0,n:=0,unit:=0 }:sw),day:=0,cH:=0,AZ:=0,need:=0,mC:=0,flags:=0,parts:=0 }:rC),af:=[],bn:=[],aw:=[],facts:=[] }:ak)).ou 1 15 _ rfl ⟨_,rfl⟩).ou 1 16 _ rfl ⟨_,rfl⟩).ou 1 17 _ rfl ⟨_,rfl⟩).ou 1 18 _ rfl ⟨_,rfl⟩).c) fun x4 =>
 .fin (((x4&&((decide (((files.length:Nat):Int)≤3))||((decide (((files.length:Nat):Int) > 50))&&(decide (((files.length:Nat):Int)≤60)))))&&(decide (((aq.length:Nat):Int)≤40)))&&(decide (((az.length:Nat):Int)≤110)))
def acU r files aq az:=(wN r files aq az).val
theorem U6 (r:ah) (files:List ak) (aq:List cS) (az:List Move):(wN r files aq az).dj (fun (x:Bool)=>x=true→r.Small∧(files.length≤50→∀ q,q < files.length→(files.getD q default).Small)):=by
 refine Sk.bz _ ?_
 unfold wN
 simp only [Sk.de,Sk.aI,reduceCtorEq,ON,kk,kp,Dl,maxLen]
 all_goals simp only [LN] at *
 refine ⟨⟨⟨Nat.zero_le _,fun q hq=>absurd hq (by omega)⟩,fun i hi=>⟨fun hc x _ hx hg _=>⟨⟨by omega,fun q hq=>?_⟩,by omega⟩,fun hc h3 q hq=>hi.2 q (by omega)⟩⟩,fun _ hb x _ hx hc=>⟨(hx hc.1.1.1).1,fun h50 q hq=>hb (by omega) q hq⟩⟩
 rcases Nat.lt_succ_iff_lt_or_eq.1 hq with h1 | rfl
 ·exact hi.2 q h1
 ·exact (hx hg.1.1).2
theorem W7 (r:ah) (files:List ak) (aq:List cS) (az:List Move):(wN r files aq az).bC (fun _=>True):=by
 refine Sk.aR _ ?_
 unfold wN
 simp only [Sk.jt,Sk.aI,reduceCtorEq,ON,kk,kp,Dl,maxLen]
 all_goals simp only [LN] at *
 refine ⟨⟨Nat.zero_le _,fun q hq=>absurd hq (by omega)⟩,fun i hi _=>⟨fun hc=>⟨⟨by omega,fun x _ _=>⟨fun _=>by omega,fun _=>by omega⟩⟩,fun x _ hx hg _=>⟨by rw [aA (by omega) (by omega)]; omega,⟨by omega,fun q hq=>?_⟩,by omega⟩⟩,fun hc h3 q hq=>hi.2 q (by omega)⟩⟩
 rcases Nat.lt_succ_iff_lt_or_eq.1 hq with h1 | rfl
 ·exact hi.2 q h1
 ·exact (hx hg.1.1).2
def Ic r files aq az:=kp tok mixed Tryz.func13 [av r.cells,lv ak.cells files,lv cS.cells aq,lv Move.cells az] (fun x=>bv x) true (acU r files aq az) (u0 (W7 r files aq az)) (U6 r files aq az)
def tB (c_:Int):Sk (Bool) :=
 .fin (((decide ((97:Int)≤c_))&&(decide (c_≤122)))||((decide ((65:Int)≤c_))&&(decide (c_≤90))))
def Np c_:=(tB c_).val
theorem Pq (c_:Int):Np c_=(((decide ((97:Int)≤c_))&&(decide (c_≤122)))||((decide ((65:Int)≤c_))&&(decide (c_≤90)))):=rfl
theorem Pr (c_:Int):(tB c_).bC (fun _=>True):=by
 unfold tB
 exact qS
def Gx c_:=kk tok mixed Tryz.func111 [.d (.v (.int .u8 c_))] (fun x=>bv x) true (tB c_) (Np c_) (u0 (Pr c_))
def xJ (s:ByteArray):Sk (Bool) :=
 .br ((decide (((s.size:Nat):Int) < 1))||(decide (((s.size:Nat):Int) > 20)))
 (.fin false)
 (.bt
 (.loop (default:Sum (Bool) (Unit)) (fun i2=>i2≤s.size) (fun i2=>s.size - i2) (0:Nat)
 (fun (i2:Nat)=>⟨[(3,iv (i2:Int))],[]⟩) fun i2 =>
 .br (decide ((i2:Int) < ((s.size:Nat):Int)))
 (.r 6 (.aj (.p (0≤(i2:Int)∧(i2:Int) < ((s.size:Nat):Int))) (.aj (.wh (((s.data.toList.getD i2 0).toNat:Int) == 95) false (.p (0≤(i2:Int)∧(i2:Int) < ((s.size:Nat):Int)))) (.wh (((s.data.toList.getD i2 0).toNat:Int) == 95) false (.wh (decide ((48:Int)≤((s.data.toList.getD i2 0).toNat:Int))) true (.p (0≤(i2:Int)∧(i2:Int) < ((s.size:Nat):Int))))))) fun _ =>
 .r 7 (.aj (.p (0≤(i2:Int)∧(i2:Int) < ((s.size:Nat):Int))) ((Gx ((s.data.toList.getD i2 0).toNat:Int)).c)) fun x3 =>
 .br ((!x3)&&(((i2:Int) == 0)||(!((((s.data.toList.getD i2 0).toNat:Int) == 95)||((decide ((48:Int)≤((s.data.toList.getD i2 0).toNat:Int)))&&(decide (((s.data.toList.getD i2 0).toNat:Int)≤57)))))))
 (.fin (.inl (.inl false)))
 (.nx 5 3 i2 (i2+1)))
 (.fin (.inl (.inr ()))))
 (fun (_:Unit)=>⟨[],[]⟩) fun _ =>
 .fin true)
def abH s:=(xJ s).val
theorem U7 (s:ByteArray):(xJ s).bC (fun _=>True):=by
 unfold xJ
 try simp only [Gx,Pq]
 exact Br
def Nq s:=kk tok mixed Tryz.func75 [sv s] (fun x=>bv x) true (xJ s) (abH s) (u0 (U7 s))
def tC (l:List ByteArray) (n:Int) (s:ByteArray):Sk (Bool) :=
 .bt
 (.loop (default:Sum (Bool) (Unit)) (fun i2=>i2≤l.length) (fun i2=>l.length - i2) (0:Nat)
 (fun (i2:Nat)=>⟨[(7,iv (i2:Int))],[]⟩) fun i2 =>
 .GG 0 0 l.length <|
 .br ((decide ((i2:Int) < n))&&(decide ((i2:Int) < ((l.length:Nat):Int))))
 (.r 4 (.p (bU (i2:Int) l.length)) fun _ =>
 .br ((l.getD i2 default).toList == s.toList)
 (.fin (.inl (.inl true)))
 (.nx 3 7 i2 (i2+1)))
 (.fin (.inl (.inr ()))))
 (fun (_:Unit)=>⟨[],[]⟩) fun _ =>
 .fin false
def W8 l n s:=(tC l n s).val
theorem Ps (l:List ByteArray) (n:Int) (s:ByteArray):(tC l n s).bC (fun _=>True):=by
 unfold tC
 exact mz
def Gy l n s:=kk tok mixed Tryz.func76 [lv kh l,iv n,sv s] (fun x=>bv x) true (tC l n s) (W8 l n s) (u0 (Ps l n s))
def vk (l:List ByteArray) (i:Int):Sk (Int) :=
 .r 1 (.aj (.p (bU i l.length)) ((Nq (l.getD i.toNat default)).c)) fun x1 =>
 .br (!x1)
 (.fin 2)
 (.r 3 (.aj (.p (bU i l.length)) ((Gy l i (l.getD i.toNat default)).c)) fun x2 =>
 .br x2
 (.fin 5)
 (.fin 0))
def ZA l i:=(vk l i).val
theorem Si (l:List ByteArray) (i:Int) (hi:0≤i∧i < (l.length:Int)):(vk l i).bC (fun _=>True):=by
 unfold vk
 try simp only [Gy,Nq]
 exact mz
def jg l i:=kk tok mixed Tryz.func51 [lv kh l,iv i] (fun x=>iv x) true (vk l i) (ZA l i) (Si l i)
def tD (n:Int) (low:Int) (high:Int):Sk (Bool) :=
 .fin ((decide (low≤n))&&(decide (n≤high)))
def Nr n low high:=(tD n low high).val
theorem fZ (n:Int) (low:Int) (high:Int):Nr n low high=((decide (low≤n))&&(decide (n≤high))):=rfl
theorem Pt (n:Int) (low:Int) (high:Int):(tD n low high).bC (fun _=>True):=by
 unfold tD
 exact qS
def bp n low high:=kk tok mixed Tryz.func53 [iv n,iv low,iv high] (fun x=>bv x) true (tD n low high) (Nr n low high) (u0 (Pt n low high))
def tE (l:List Int) (low:Int) (high:Int):Sk (Bool) :=
 .bt
 (.loop (default:Sum (Bool) (Unit)) (fun i2=>i2≤l.length) (fun i2=>l.length - i2) (0:Nat)
 (fun (i2:Nat)=>⟨[(7,iv (i2:Int))],[]⟩) fun i2 =>
 .lt 0 0 i2 l.length
 (.r 4 (.aj (.p (bU (i2:Int) l.length)) ((bp (l.getD i2 default) low high).c)) fun x3 =>
 .br (!x3)
 (.fin (.inl (.inl false)))
 (.r 6 (.aj (.wh (decide ((i2:Int) > 0)) true (.p (bU (ar ((i2:Int) - 1)) l.length))) (.wh (decide ((i2:Int) > 0)) true (.p (bU (i2:Int) l.length)))) fun _ =>
 .br ((decide ((i2:Int) > 0))&&(decide ((l.getD ((ar ((i2:Int) - 1)).toNat) default)≥(l.getD i2 default))))
 (.fin (.inl (.inl false)))
 (.nx 3 7 i2 (i2+1))))
 (.fin (.inl (.inr ()))))
 (fun (_:Unit)=>⟨[],[]⟩) fun _ =>
 .fin true
def W9 l low high:=(tE l low high).val
theorem Pu (l:List Int) (low:Int) (high:Int):(tE l low high).bC (fun _=>True):=by
 unfold tE
 try simp only [bp,fZ]
 exact Br
def vl l low high:=kk tok mixed Tryz.func77 [lv bI l,iv low,iv high] (fun x=>bv x) true (tE l low high) (W9 l low high) (u0 (Pu l low high))
def pg (r:ah) (c_:kO):Sk (Bool) :=
 .r 1 (.dep ((bp c_.order 0 (ar (((r.aE.length:Nat):Int) - 1))).c) fun x1=>.wh (!x1) false ((bp c_.au 0 (ar (((r.cz.length:Nat):Int) - 1))).c)) fun Qa =>
 .br ((((!Qa.1)||(!Qa.2))||(decide (((c_.gS.length:Nat):Int) > 60)))||(decide (((c_.shut.length:Nat):Int) > 200)))
 (.fin false)
 (.bt
 (.loop (default:Sum (Bool) (Unit)) (fun i4=>i4≤c_.gS.length) (fun i4=>c_.gS.length - i4) (0:Nat)
 (fun (i4:Nat)=>⟨[(5,iv (i4:Int))],[]⟩) fun i4 =>
 .lt 3 4 i4 c_.gS.length
 (.r 6 (.aj (.p (bU (i4:Int) c_.gS.length)) (.aj (.p ((100:Int)≠0)) (.dep ((bp (ar ((c_.gS.getD i4 default).tdiv 100)) 1 12).c) fun x5=>.aj (.wh (!x5) false (.p (bU (i4:Int) c_.gS.length))) (.aj (.wh (!x5) false (.p ((100:Int)≠0))) (.wh (!x5) false ((bp ((c_.gS.getD i4 default).tmod 100) 1 31).c)))))) fun p7 =>
 .br ((!p7.1)||(!p7.2))
 (.fin (.inl (.inl false)))
 (.nx 5 5 i4 (i4+1)))
 (.fin (.inl (.inr ()))))
 (fun (_:Unit)=>⟨[],[]⟩) fun _ =>
 .r 8 (.dep ((vl c_.rest 0 6).c) fun x8=>.dep (.wh x8 true ((vl c_.gS 0 2000).c)) fun x9=>.wh (x8&&x9) true ((vl c_.shut 0 100000).c)) fun GI =>
 .fin ((GI.1&&GI.2.1)&&GI.2.2))
def Pv r c_:=(pg r c_).val
theorem Ie (r:ah) (c_:kO):(pg r c_).bC (fun _=>True):=by
 unfold pg
 try simp only [vl,bp,fZ]
 exact Br
def uF r c_:=kk tok mixed Tryz.func52 [av r.cells,av c_.cells] (fun x=>bv x) true (pg r c_) (Pv r c_) (u0 (Ie r c_))
def pP (r:ah):Sk (Int) :=
 .br (decide (((r.cz.length:Nat):Int) > 8))
 (.fin 6)
 (.bt
 (.loop (default:Sum (Int) (Unit)) (fun i2=>i2≤r.cz.length) (fun i2=>r.cz.length - i2) (0:Nat)
 (fun (i2:Nat)=>⟨[(3,iv (i2:Int))],[]⟩) fun i2 =>
 .lt 1 0 i2 r.cz.length
 (.r 6 ((jg r.cz (i2:Int)).c) fun x3 =>
 .br (x3 != 0)
 (.fin (.inl (.inl x3)))
 (.nx 5 3 i2 (i2+1)))
 (.fin (.inl (.inr ()))))
 (fun (_:Unit)=>⟨[],[]⟩) fun _ =>
 .br (decide (((r.aN.length:Nat):Int) > 40))
 (.fin 6)
 (.bt
 (.loop (default:Sum (Int) (Unit)) (fun i5=>i5.1.length=i5.2∧i5.2≤r.aN.length) (fun i5=>r.aN.length - i5.2) (([],0):(List ByteArray) × Nat)
 (fun (i5:(List ByteArray) × Nat)=>⟨[(5,ow 100001 i5.1),(6,iv (i5.2:Int))],[(100001,bw 9 1 kh i5.1)]⟩) fun i5 =>
 .lt 1 1 i5.2 r.aN.length
 (.r 15 (.aj (.p (bU (i5.2:Int) r.aN.length)) (.aj (.o [.eG (fm yQ [(r.aN.getD i5.2 default).name])]) (.aj (.o [.eG (mX yQ i5.1 [(r.aN.getD i5.2 default).name])]) (.aj (.t (yQ.ot [(r.aN.getD i5.2 default).name])) (.p (yB i5.1.length [(r.aN.getD i5.2 default).name].length 16)))))) fun _ =>
 .r 16 ((jg (i5.1++[(r.aN.getD i5.2 default).name]) (i5.2:Int)).c) fun x6 =>
 .br (x6 != 0)
 (.fin (.inl (.inl x6)))
 (.r 19 (.aj (.p (bU (i5.2:Int) r.aN.length)) ((uF r (r.aN.getD i5.2 default)).c)) fun x7 =>
 .br (!x7)
 (.fin (.inl (.inl 1)))
 (.nx 14 6 i5.2 (i5.1++[(r.aN.getD i5.2 default).name],i5.2+1))))
 (.fin (.inl (.inr ()))))
 (fun (_:Unit)=>⟨[],[]⟩) fun _ =>
 .fin 0))
def Xa r:=(pP r).val
theorem Ns (r:ah):(pP r).dj (fun (x:Int)=>x=0→r.cz.length≤8∧r.aN.length≤40):=by
 unfold pP
 try simp only [uF,jg]
 exact Fw
theorem Pw (r:ah):(pP r).bC (fun _=>True):=by
 unfold pP
 try simp only [uF,jg]
 exact mz
def AJ r:=kp tok mixed Tryz.func27 [av r.cells] (fun x=>iv x) true (Xa r) (u0 (Pw r)) (Ns r)
def ph (r:ah):Sk (Int) :=
 .br (decide (((r.gh.length:Nat):Int) > 20))
 (.fin 6)
 (.bt
 (.loop (default:Sum (Int) (Unit)) (fun i2=>i2≤r.gh.length) (fun i2=>r.gh.length - i2) (0:Nat)
 (fun (i2:Nat)=>⟨[(3,iv (i2:Int))],[]⟩) fun i2 =>
 .lt 1 2 i2 r.gh.length
 (.r 6 (.aj (.p (bU (i2:Int) r.gh.length)) ((bp ((r.gh.getD i2 default).T9) 0 9).c)) fun x3 =>
 .br (!x3)
 (.fin (.inl (.inl 1)))
 (.nx 5 3 i2 (i2+1)))
 (.fin (.inl (.inr ()))))
 (fun (_:Unit)=>⟨[],[]⟩) fun _ =>
 .br (decide (((r.bu.length:Nat):Int) > 200))
 (.fin 6)
 (.bind true (fun b4=>r.aN.length≤40→r.il)
 (.loop (default:Sum (Int) (Unit)) (fun i5=>i5.1.length=i5.2∧i5.2≤r.bu.length∧(r.aN.length≤40→∀ q,q < i5.2→0≤(r.bu.getD q default).cH∧(r.bu.getD q default).cH < (r.aN.length:Int))) (fun i5=>r.bu.length - i5.2) (([],0):(List ByteArray) × Nat)
 (fun (i5:(List ByteArray) × Nat)=>⟨[(4,ow 100001 i5.1),(5,iv (i5.2:Int))],[(100001,bw 9 1 kh i5.1)]⟩) fun i5 =>
 .lt 1 3 i5.2 r.bu.length
 (.r 14 (.aj (.p (bU (i5.2:Int) r.bu.length)) (.aj (.o [.eG (fm yQ [(r.bu.getD i5.2 default).name])]) (.aj (.o [.eG (mX yQ i5.1 [(r.bu.getD i5.2 default).name])]) (.aj (.t (yQ.ot [(r.bu.getD i5.2 default).name])) (.p (yB i5.1.length [(r.bu.getD i5.2 default).name].length 16)))))) fun _ =>
 .r 15 ((jg (i5.1++[(r.bu.getD i5.2 default).name]) (i5.2:Int)).c) fun x6 =>
 .br (x6 != 0)
 (.fin (.inl (.inl x6)))
 (.r 18 (.aj (.p (bU (i5.2:Int) r.bu.length)) (.dep ((bp ((r.bu.getD i5.2 default).cH) 0 (ar (((r.aN.length:Nat):Int) - 1))).c) fun x7=>.aj (.wh (!x7) false (.p (bU (i5.2:Int) r.bu.length))) (.wh (!x7) false ((bp ((r.bu.getD i5.2 default).group) 0 (ar (((r.gh.length:Nat):Int) - 1))).c)))) fun p9 =>
 .br ((!p9.1)||(!p9.2))
 (.fin (.inl (.inl 1)))
 (.nx 13 5 i5.2 (i5.1++[(r.bu.getD i5.2 default).name],i5.2+1))))
 (.fin (.inl (.inr ()))))
 (fun (_:Unit)=>⟨[],[]⟩) fun _ =>
 .fin 0))
def Qq r:=(ph r).val
theorem Px (r:ah) (hP:r.aN.length≤40):(ph r).dj (fun (x:Int)=>x=0→r.gh.length≤20∧r.bu.length≤200∧r.il):=by
 refine Sk.bz _ ?_
 unfold ph
 simp only [Sk.de,Sk.aI,reduceCtorEq,ON,kk,kp,bp,jg,fZ,forall_eq,ah.il,maxLen]
 all_goals exact af8
theorem Nt (r:ah):(fun (x:Int)=>(r.aN.length≤40)→(x=0→r.gh.length≤20∧r.bu.length≤200∧r.il)) (Qq r):=fun hP=>Sk.dk _ (Px r hP)
theorem Sj (r:ah):(ph r).bC (fun _=>True):=by
 refine Sk.aR _ ?_
 unfold ph
 simp only [Sk.jt,Sk.aI,reduceCtorEq,ON,kk,kp,bp,jg,fZ,forall_eq,ah.il,maxLen]
 all_goals exact af8
def CJ r:=kk tok mixed Tryz.func28 [av r.cells] (fun x=>iv x) true (ph r) (Qq r) (u0 (Sj r)) (fun (x:Int)=>(r.aN.length≤40)→(x=0→r.gh.length≤20∧r.bu.length≤200∧r.il)) (Nt r)
def kL (o:Order):Sk (Bool) :=
 .bind true (fun b1=>∀ j:Nat,j < o.ba.length→((j:Int)≤(o.ba.getD j default).ask∧(o.ba.getD j default).ask≤21)∧0≤(o.ba.getD j default).c9∧(o.ba.getD j default).c9 < 5)
 (.loop (default:Sum (Bool) (Unit)) (fun i2=>(∀ j:Nat,j < i2→((j:Int)≤(o.ba.getD j default).ask∧(o.ba.getD j default).ask≤21)∧0≤(o.ba.getD j default).c9∧(o.ba.getD j default).c9 < 5)∧i2≤o.ba.length) (fun i2=>o.ba.length - i2) (0:Nat)
 (fun (i2:Nat)=>⟨[(3,iv (i2:Int))],[]⟩) fun i2 =>
 .lt 1 2 i2 o.ba.length
 (.r 4 (.aj (.p (bU (i2:Int) o.ba.length)) (.dep ((bp ((o.ba.getD i2 default).ask) 0 21).c) fun x3=>.aj (.wh (!x3) false (.p (bU (i2:Int) o.ba.length))) (.wh (!x3) false ((bp ((o.ba.getD i2 default).c9) 0 4).c)))) fun p5 =>
 .br ((!p5.1)||(!p5.2))
 (.fin (.inl (.inl false)))
 (.r 6 (.aj (.wh (decide ((i2:Int) > 0)) true (.p (bU (ar ((i2:Int) - 1)) o.ba.length))) (.wh (decide ((i2:Int) > 0)) true (.p (bU (i2:Int) o.ba.length)))) fun _ =>
 .br ((decide ((i2:Int) > 0))&&(decide (((o.ba.getD ((ar ((i2:Int) - 1)).toNat) default).ask)≥((o.ba.getD i2 default).ask))))
 (.fin (.inl (.inl false)))
 (.nx 3 3 i2 (i2+1))))
 (.fin (.inl (.inr ()))))
 (fun (_:Unit)=>⟨[],[]⟩) fun _ =>
 .bind true (fun b6=>∀ j:Nat,j < o.rules.length→(j:Int)≤(o.rules.getD j default).ask∧(o.rules.getD j default).ask≤21)
 (.loop (default:Sum (Bool) (Unit)) (fun i7=>(∀ j:Nat,j < i7→(j:Int)≤(o.rules.getD j default).ask∧(o.rules.getD j default).ask≤21)∧i7≤o.rules.length) (fun i7=>o.rules.length - i7) (0:Nat)
 (fun (i7:Nat)=>⟨[(4,iv (i7:Int))],[]⟩) fun i7 =>
 .lt 1 3 i7 o.rules.length
 (.r 11 (.aj (.p (bU (i7:Int) o.rules.length)) ((bp ((o.rules.getD i7 default).ask) 0 21).c)) fun x8 =>
 .br (!x8)
 (.fin (.inl (.inl false)))
 (.r 13 (.aj (.wh (decide ((i7:Int) > 0)) true (.p (bU (ar ((i7:Int) - 1)) o.rules.length))) (.wh (decide ((i7:Int) > 0)) true (.p (bU (i7:Int) o.rules.length)))) fun _ =>
 .br ((decide ((i7:Int) > 0))&&(decide (((o.rules.getD ((ar ((i7:Int) - 1)).toNat) default).ask)≥((o.rules.getD i7 default).ask))))
 (.fin (.inl (.inl false)))
 (.nx 10 4 i7 (i7+1))))
 (.fin (.inl (.inr ()))))
 (fun (_:Unit)=>⟨[],[]⟩) fun _ =>
 .fin true
def Nu o:=(kL o).val
theorem ES (o:Order):(kL o).dj (fun (x:Bool)=>x=true→(∀ j,j < o.ba.length→0≤(o.ba.getD j default).c9∧(o.ba.getD j default).c9 < 5)∧o.ba.length≤22∧o.rules.length≤22):=by
 refine Sk.bz _ ?_
 unfold kL
 simp only [Sk.de,Sk.aI,reduceCtorEq,ON,kk,kp,bp,fZ,forall_eq,maxLen]
 refine ⟨⟨⟨fun j hj=>absurd hj (by omega),Nat.zero_le _⟩,fun i hi=>⟨fun hc h1 _ h2 _=>?_,fun hc j hj=>?_⟩⟩,fun _ hJ=>⟨⟨⟨fun j hj=>absurd hj (by omega),Nat.zero_le _⟩,fun i hi=>⟨fun hc h1 _ h2 _=>?_,fun hc j hj=>?_⟩⟩,fun _ hJ2=>⟨fun j hj=>(hJ j hj).2,?_,?_⟩⟩⟩
 rotate_right
 rotate_right
 ·rcases Nat.lt_or_ge 22 o.ba.length with h | h
  ·have:=(hJ 22 h).1; omega
  ·exact h
 ·rcases Nat.lt_or_ge 22 o.rules.length with h | h
  ·have:=hJ2 22 h; omega
  ·exact h
 all_goals simp only [LN] at hc
 ·simp only [LN] at h1 h2
  refine ⟨⟨fun j hj=>?_,by omega⟩,by omega⟩
  by_cases e:j=i
  ·subst e
   refine ⟨⟨?_,by omega⟩,by omega,by omega⟩
   by_cases e0:j=0
   ·subst e0; omega
   ·have h3:=hi.1 (j - 1) (by omega)
    have h4:=h2.resolve_left (by omega)
    rw [aA (by omega) (by omega),show ((j:Int) - 1).toNat=j - 1 by omega] at h4
    omega
  ·exact hi.1 j (by omega)
 ·exact hi.1 j (by omega)
 ·simp only [LN] at h1 h2
  refine ⟨⟨fun j hj=>?_,by omega⟩,by omega⟩
  by_cases e:j=i
  ·subst e
   refine ⟨?_,by omega⟩
   by_cases e0:j=0
   ·subst e0; omega
   ·have h3:=hi.1 (j - 1) (by omega)
    have h4:=h2.resolve_left (by omega)
    rw [aA (by omega) (by omega),show ((j:Int) - 1).toNat=j - 1 by omega] at h4
    omega
  ·exact hi.1 j (by omega)
 ·exact hi.1 j (by omega)
theorem Gz (o:Order):(kL o).bC (fun _=>True):=by
 refine Sk.aR _ ?_
 unfold kL
 simp only [Sk.jt,Sk.aI,reduceCtorEq,ON,kk,kp,bp,fZ,forall_eq,maxLen]
 refine ⟨⟨⟨fun j hj=>absurd hj (by omega),Nat.zero_le _⟩,fun i hi hm=>⟨fun hc=>⟨⟨?_,fun _=>?_⟩,fun h1=>⟨⟨fun h3=>?_,fun _=>?_⟩,fun _ h2 _=>⟨?_,?_⟩⟩⟩,fun hc j hj=>?_⟩⟩,fun _ hJ=>⟨⟨fun j hj=>absurd hj (by omega),Nat.zero_le _⟩,fun i hi hm=>⟨fun hc=>⟨?_,fun h1=>⟨⟨fun h3=>?_,fun _=>?_⟩,fun _ h2 _=>⟨?_,?_⟩⟩⟩,fun hc j hj=>?_⟩⟩⟩
 all_goals simp only [LN] at hc
 ·exact ⟨by omega,by omega⟩
 ·exact ⟨by omega,by omega⟩
 ·simp only [LN] at h3
  rw [aA (by omega) (by omega)]
  exact ⟨by omega,by omega⟩
 ·exact ⟨by omega,by omega⟩
 ·exact (aA (by omega) (by omega)).trans (by omega)
 ·simp only [LN] at h1 h2
  refine ⟨⟨fun j hj=>?_,by omega⟩,by omega⟩
  by_cases e:j=i
  ·subst e
   refine ⟨⟨?_,by omega⟩,by omega,by omega⟩
   by_cases e0:j=0
   ·subst e0; omega
   ·have h3:=hi.1 (j - 1) (by omega)
    have h4:=h2.resolve_left (by omega)
    rw [aA (by omega) (by omega),show ((j:Int) - 1).toNat=j - 1 by omega] at h4
    omega
  ·exact hi.1 j (by omega)
 ·exact hi.1 j (by omega)
 ·exact ⟨by omega,by omega⟩
 ·simp only [LN] at h3
  rw [aA (by omega) (by omega)]
  exact ⟨by omega,by omega⟩
 ·exact ⟨by omega,by omega⟩
 ·exact (aA (by omega) (by omega)).trans (by omega)
 ·simp only [LN] at h1 h2
  refine ⟨⟨fun j hj=>?_,by omega⟩,by omega⟩
  by_cases e:j=i
  ·subst e
   refine ⟨?_,by omega⟩
   by_cases e0:j=0
   ·subst e0; omega
   ·have h3:=hi.1 (j - 1) (by omega)
    have h4:=h2.resolve_left (by omega)
    rw [aA (by omega) (by omega),show ((j:Int) - 1).toNat=j - 1 by omega] at h4
    omega
  ·exact hi.1 j (by omega)
 ·exact hi.1 j (by omega)
def sZ o:=kp tok mixed Tryz.func54 [av o.cells] (fun x=>bv x) true (Nu o) (u0 (Gz o)) (ES o)
def pQ (r:ah):Sk (Int) :=
 .br (decide (((r.aE.length:Nat):Int) > 20))
 (.fin 6)
 (.bind true (fun b1=>r.cj∧(∀ i,i < r.aE.length→(r.aE.getD i default).ba.length≤22∧(r.aE.getD i default).rules.length≤22))
 (.loop (default:Sum (Int) (Unit)) (fun i2=>i2.1.length=i2.2∧i2.2≤r.aE.length∧(∀ i j,i < i2.2→j < (r.aE.getD i default).ba.length→0≤((r.aE.getD i default).ba.getD j default).c9∧((r.aE.getD i default).ba.getD j default).c9 < 5)∧(∀ i,i < i2.2→(r.aE.getD i default).ba.length≤22∧(r.aE.getD i default).rules.length≤22)) (fun i2=>r.aE.length - i2.2) (([],0):(List ByteArray) × Nat)
 (fun (i2:(List ByteArray) × Nat)=>⟨[(3,ow 100001 i2.1),(4,iv (i2.2:Int))],[(100001,bw 9 1 kh i2.1)]⟩) fun i2 =>
 .lt 1 4 i2.2 r.aE.length
 (.r 7 (.aj (.p (bU (i2.2:Int) r.aE.length)) (.aj (.o [.eG (fm yQ [(r.aE.getD i2.2 default).name])]) (.aj (.o [.eG (mX yQ i2.1 [(r.aE.getD i2.2 default).name])]) (.aj (.t (yQ.ot [(r.aE.getD i2.2 default).name])) (.p (yB i2.1.length [(r.aE.getD i2.2 default).name].length 16)))))) fun _ =>
 .r 8 ((jg (i2.1++[(r.aE.getD i2.2 default).name]) (i2.2:Int)).c) fun x3 =>
 .br (x3 != 0)
 (.fin (.inl (.inl x3)))
 (.r 11 (.aj (.p (bU (i2.2:Int) r.aE.length)) ((sZ (r.aE.getD i2.2 default)).c)) fun x4 =>
 .br (!x4)
 (.fin (.inl (.inl 1)))
 (.nx 6 4 i2.2 (i2.1++[(r.aE.getD i2.2 default).name],i2.2+1))))
 (.fin (.inl (.inr ()))))
 (fun (_:Unit)=>⟨[],[]⟩) fun _ =>
 .fin 0)
def Xb r:=(pQ r).val
theorem Nv (r:ah):(pQ r).dj (fun (x:Int)=>x=0→r.cj∧r.aE.length≤20∧(∀ i,i < r.aE.length→(r.aE.getD i default).ba.length≤22∧(r.aE.getD i default).rules.length≤22)):=by
 unfold pQ
 try simp only [sZ,jg,ah.cj]
 exact Fw
theorem Py (r:ah):(pQ r).bC (fun _=>True):=by
 unfold pQ
 try simp only [sZ,jg,ah.cj]
 exact mz
def AK r:=kp tok mixed Tryz.func29 [av r.cells] (fun x=>iv x) true (Xb r) (u0 (Py r)) (Nv r)
def oj (r:ah):Sk (Int) :=
 .br (decide (((r.bg.length:Nat):Int) > 100))
 (.fin 6)
 (.bt
 (.loop (default:Sum (Int) (Unit)) (fun i2=>i2≤r.bg.length) (fun i2=>r.bg.length - i2) (0:Nat)
 (fun (i2:Nat)=>⟨[(3,iv (i2:Int))],[]⟩) fun i2 =>
 .lt 1 5 i2 r.bg.length
 (.bt
 (.r 6 (.p (bU (i2:Int) r.bg.length)) fun _ =>
 .r 7 (.dep ((bp ((r.bg.getD i2 default).from_) 0 (ar (((r.aN.length:Nat):Int) - 1))).c) fun x4=>.dep (.wh (!x4) false ((bp ((r.bg.getD i2 default).cM) 0 (ar (((r.aN.length:Nat):Int) - 1))).c)) fun x5=>.wh ((!x4)||(!x5)) false ((bp ((r.bg.getD i2 default).days) 1 20000).c)) fun p9 =>
 .br (((!p9.1)||(!p9.2.1))||(!p9.2.2))
 (.fin (.inl (.inl (.inl 1))))
 (.bt
 (.loop (default:Sum (Sum (Sum (Sum (Int) (Unit)) (Nat)) (Int × (List ev) × Int × ev × Int × (List kO) × Int × Int × Bool × Bool × Bool × Bool × Bool × Bool × Int × Int × Bool)) (Int × Int × Int × Bool)) (fun i8=>i8≤i2) (fun i8=>i2 - i8) (0:Nat)
 (fun (i8:Nat)=>⟨[(5,iv (i8:Int))],[]⟩) fun i8 =>
 .br (decide ((i8:Int) < (i2:Int)))
 (.r 12 (.aj (.p (bU (i8:Int) r.bg.length)) (.wh (((r.bg.getD i8 default).from_) == ((r.bg.getD i2 default).from_)) true (.p (bU (i8:Int) r.bg.length)))) fun _ =>
 .br ((((r.bg.getD i8 default).from_) == ((r.bg.getD i2 default).from_))&&(((r.bg.getD i8 default).cM) == ((r.bg.getD i2 default).cM)))
 (.fin (.inl (.inl (.inl (.inl (.inl 5))))))
 (.nx 11 5 i8 (i8+1)))
 (.fin (.inl (.inr ((i8:Int),(i8:Int),(i2:Int),decide ((i8:Int) < (i2:Int)))))))
 (fun (b7:Int × Int × Int × Bool)=>⟨[(5,iv b7.1),(46,iv b7.2.1),(47,iv b7.2.2.1),(48,bv b7.2.2.2)],[]⟩) fun b7 =>
 .fin (.inr (b7.1,r.bg,(i2:Int),r.bg.getD i2 default,(r.bg.getD i2 default).from_,r.aN,((r.aN.length:Nat):Int),ar (((r.aN.length:Nat):Int) - 1),p9.1,!p9.1,!p9.1,(!p9.1)||(!p9.2.1),(!p9.1)||(!p9.2.1),((!p9.1)||(!p9.2.1))||(!p9.2.2),b7.2.1,b7.2.2.1,b7.2.2.2))))
 (fun (b3:Int × (List ev) × Int × ev × Int × (List kO) × Int × Int × Bool × Bool × Bool × Bool × Bool × Bool × Int × Int × Bool)=>⟨[(5,iv b3.1),(18,lv ev.cells b3.2.1),(19,iv b3.2.2.1),(21,av b3.2.2.2.1.cells),(23,iv b3.2.2.2.2.1),(25,lv kO.cells b3.2.2.2.2.2.1),(26,iv b3.2.2.2.2.2.2.1),(27,iv b3.2.2.2.2.2.2.2.1),(28,bv b3.2.2.2.2.2.2.2.2.1),(29,bv b3.2.2.2.2.2.2.2.2.2.1),(30,bv b3.2.2.2.2.2.2.2.2.2.2.1),(39,bv b3.2.2.2.2.2.2.2.2.2.2.2.1),(40,bv b3.2.2.2.2.2.2.2.2.2.2.2.2.1),(45,bv b3.2.2.2.2.2.2.2.2.2.2.2.2.2.1),(46,iv b3.2.2.2.2.2.2.2.2.2.2.2.2.2.2.1),(47,iv b3.2.2.2.2.2.2.2.2.2.2.2.2.2.2.2.1),(48,bv b3.2.2.2.2.2.2.2.2.2.2.2.2.2.2.2.2)],[]⟩) fun _ =>
 .nx 5 3 i2 (i2+1))
 (.fin (.inl (.inr ()))))
 (fun (_:Unit)=>⟨[],[]⟩) fun _ =>
 .fin 0)
def U8 r:=(oj r).val
theorem Km (r:ah):(oj r).dj (fun (x:Int)=>x=0→r.bg.length≤100):=by
 unfold oj
 try simp only [bp,fZ]
 exact Wt
theorem Nw (r:ah):(oj r).bC (fun _=>True):=by
 unfold oj
 try simp only [bp,fZ]
 exact Br
def yy r:=kp tok mixed Tryz.func30 [av r.cells] (fun x=>iv x) true (U8 r) (u0 (Nw r)) (Km r)
def pR (r:ah):Sk (Int) :=
 .br (decide (((r.bV.length:Nat):Int) > 100))
 (.fin 6)
 (.bind true (fun b1=>r.dg)
 (.loop (default:Sum (Int) (Unit)) (fun i2=>i2≤r.bV.length∧(∀ i,i < i2→(1≤(r.bV.getD i default).num∧(r.bV.getD i default).num≤1073741824)∧1≤(r.bV.getD i default).den∧(r.bV.getD i default).den≤1073741824)) (fun i2=>r.bV.length - i2) (0:Nat)
 (fun (i2:Nat)=>⟨[(3,iv (i2:Int))],[]⟩) fun i2 =>
 .lt 1 6 i2 r.bV.length
 (.r 6 (.p (bU (i2:Int) r.bV.length)) fun _ =>
 .r 7 (.dep ((bp ((r.bV.getD i2 default).from_) 0 (ar (((r.cz.length:Nat):Int) - 1))).c) fun x3=>.wh (!x3) false ((bp ((r.bV.getD i2 default).cM) 0 (ar (((r.cz.length:Nat):Int) - 1))).c)) fun p9 =>
 .br (((!p9.1)||(!p9.2))||(((r.bV.getD i2 default).from_) == ((r.bV.getD i2 default).cM)))
 (.fin (.inl (.inl 1)))
 (.r 9 (.dep ((bp ((r.bV.getD i2 default).num) 1 1073741824).c) fun x5=>.dep (.wh (!x5) false ((bp ((r.bV.getD i2 default).den) 1 1073741824).c)) fun x6=>.wh ((!x5)||(!x6)) false ((bp ((r.bV.getD i2 default).since) 0 100000).c)) fun p8 =>
 .br (((!p8.1)||(!p8.2.1))||(!p8.2.2))
 (.fin (.inl (.inl 1)))
 (.nx 5 3 i2 (i2+1))))
 (.fin (.inl (.inr ()))))
 (fun (_:Unit)=>⟨[],[]⟩) fun _ =>
 .br (decide (((r.eR.length:Nat):Int) > 20))
 (.fin 6)
 (.bind true (fun b10=>r.eM)
 (.loop (default:Sum (Int) (Unit)) (fun i11=>i11≤r.eR.length∧(∀ i,i < i11→(r.eR.getD i default).cM≤100000)) (fun i11=>r.eR.length - i11) (0:Nat)
 (fun (i11:Nat)=>⟨[(5,iv (i11:Int))],[]⟩) fun i11 =>
 .lt 1 7 i11 r.eR.length
 (.r 16 (.p (bU (i11:Int) r.eR.length)) fun _ =>
 .r 17 (.dep ((bp ((r.eR.getD i11 default).order) 0 (ar (((r.aE.length:Nat):Int) - 1))).c) fun x12=>.wh (!x12) false ((bp ((r.eR.getD i11 default).from_) 0 ((r.eR.getD i11 default).cM)).c)) fun Mk =>
 .br (((!Mk.1)||(!Mk.2))||(decide (((r.eR.getD i11 default).cM) > 100000)))
 (.fin (.inl (.inl 1)))
 (.nx 15 5 i11 (i11+1)))
 (.fin (.inl (.inr ()))))
 (fun (_:Unit)=>⟨[],[]⟩) fun _ =>
 .fin 0))
def Xc r:=(pR r).val
theorem Nx (r:ah):(pR r).dj (fun (x:Int)=>x=0→r.bV.length≤100∧r.eR.length≤20∧r.dg∧r.eM):=by
 unfold pR
 try simp only [bp,fZ,ah.eM,ah.dg]
 exact Wt
theorem Pz (r:ah):(pR r).bC (fun _=>True):=by
 unfold pR
 try simp only [bp,fZ,ah.eM,ah.dg]
 exact Br
def AL r:=kp tok mixed Tryz.func31 [av r.cells] (fun x=>iv x) true (Xc r) (u0 (Pz r)) (Nx r)
def sm (r:ah):Sk (Int) :=
 .r 1 ((AJ r).c) fun x1 =>
 .bind false (fun b2=>b2=0→r.cz.length≤8∧r.aN.length≤40∧r.gh.length≤20∧r.bu.length≤200∧r.il)
 (.br (x1 == 0)
 (.r 3 ((CJ r).c) fun x3 =>
 .fin (.inr x3))
 (.fin (.inr x1)))
 (fun (b2:Int)=>⟨[(3,iv b2)],[]⟩) fun b2 =>
 .bind false (fun b4=>b4=0→r.cz.length≤8∧r.aN.length≤40∧r.gh.length≤20∧r.bu.length≤200∧r.il∧r.cj∧r.aE.length≤20∧(∀ i,i < r.aE.length→(r.aE.getD i default).ba.length≤22∧(r.aE.getD i default).rules.length≤22))
 (.br (b2 == 0)
 (.r 5 ((AK r).c) fun x5 =>
 .fin (.inr x5))
 (.fin (.inr b2)))
 (fun (b4:Int)=>⟨[(3,iv b4)],[]⟩) fun b4 =>
 .bind false (fun b6=>b6=0→r.cz.length≤8∧r.aN.length≤40∧r.gh.length≤20∧r.bu.length≤200∧r.il∧r.cj∧r.aE.length≤20∧(∀ i,i < r.aE.length→(r.aE.getD i default).ba.length≤22∧(r.aE.getD i default).rules.length≤22)∧r.bg.length≤100)
 (.br (b4 == 0)
 (.r 7 ((yy r).c) fun x7 =>
 .fin (.inr x7))
 (.fin (.inr b4)))
 (fun (b6:Int)=>⟨[(3,iv b6)],[]⟩) fun b6 =>
 .br (b6 == 0)
 (.r 9 ((AL r).c) fun x8 =>
 .fin x8)
 (.fin b6)
def ZC r:=(sm r).val
theorem PA (r:ah):(sm r).dj (fun (x:Int)=>x=0→r.cz.length≤8∧r.aN.length≤40∧r.gh.length≤20∧r.bu.length≤200∧r.il∧r.cj∧r.aE.length≤20∧(∀ i,i < r.aE.length→(r.aE.getD i default).ba.length≤22∧(r.aE.getD i default).rules.length≤22)∧r.bg.length≤100∧r.bV.length≤100∧r.eR.length≤20∧r.dg∧r.eM):=by
 refine Sk.bz _ ?_
 unfold sm
 simp only [Sk.de,Sk.aI,reduceCtorEq,ON,kk,kp,AJ,CJ,AK,AL,yy,maxLen]
 intro x _ hx
 refine ⟨⟨fun h y _ hy h0=>?_,fun h h0=>?_⟩,fun b _ hb=>⟨⟨fun h y _ hy h0=>?_,fun h h0=>?_⟩,fun b2 _ GH=>⟨⟨fun h y _ hy h0=>?_,fun h h0=>?_⟩,fun b3 _ ZX=>⟨fun h y _ hy h0=>?_,fun h h0=>?_⟩⟩⟩⟩
 ·have hx:=hx (by simpa using h); have hy:=hy hx.2 h0; exact ⟨hx.1,hx.2,hy⟩
 ·rw [h0] at h; exact absurd h (by decide)
 ·have hb:=hb (by simpa using h); exact ⟨hb.1,hb.2.1,hb.2.2.1,hb.2.2.2.1,hb.2.2.2.2,hy h0⟩
 ·rw [h0] at h; exact absurd h (by decide)
 ·have hb:=GH (by simpa using h); exact ⟨hb.1,hb.2.1,hb.2.2.1,hb.2.2.2.1,hb.2.2.2.2.1,hb.2.2.2.2.2.1,hb.2.2.2.2.2.2.1,hb.2.2.2.2.2.2.2,hy h0⟩
 ·rw [h0] at h; exact absurd h (by decide)
 ·have hb:=ZX (by simpa using h); exact ⟨hb.1,hb.2.1,hb.2.2.1,hb.2.2.2.1,hb.2.2.2.2.1,hb.2.2.2.2.2.1,hb.2.2.2.2.2.2.1,hb.2.2.2.2.2.2.2.1,hb.2.2.2.2.2.2.2.2,hy h0⟩
 ·rw [h0] at h; exact absurd h (by decide)
theorem Sl (r:ah):(sm r).bC (fun _=>True):=by
 refine Sk.aR _ ?_
 unfold sm
 simp only [Sk.jt,Sk.aI,reduceCtorEq,ON,kk,kp,AJ,CJ,AK,AL,yy,maxLen]
 intro x _ hx
 refine ⟨⟨fun h y _ hy h0=>?_,fun h h0=>?_⟩,fun b _ hb=>⟨⟨fun h y _ hy h0=>?_,fun h h0=>?_⟩,fun b2 _ GH=>⟨fun h y _ hy h0=>?_,fun h h0=>?_⟩⟩⟩
 ·have hx:=hx (by simpa using h); have hy:=hy hx.2 h0; exact ⟨hx.1,hx.2,hy⟩
 ·rw [h0] at h; exact absurd h (by decide)
 ·have hb:=hb (by simpa using h); exact ⟨hb.1,hb.2.1,hb.2.2.1,hb.2.2.2.1,hb.2.2.2.2,hy h0⟩
 ·rw [h0] at h; exact absurd h (by decide)
 ·have hb:=GH (by simpa using h); exact ⟨hb.1,hb.2.1,hb.2.2.1,hb.2.2.2.1,hb.2.2.2.2.1,hb.2.2.2.2.2.1,hb.2.2.2.2.2.2.1,hb.2.2.2.2.2.2.2,hy h0⟩
 ·rw [h0] at h; exact absurd h (by decide)
def CK r:=kp tok mixed Tryz.func14 [av r.cells] (fun x=>iv x) true (ZC r) (u0 (Sl r)) (PA r)
def wO (r:ah) (files:List ak) (aq:List cS) (az:List Move):Sk (Bool) :=
 .r 1 (.dep ((Ic r files aq az).c) fun x1=>.wh x1 true ((CK r).c)) fun p3 =>
 .fin (p3.1&&(p3.2 == 0))
def acV r files aq az:=(wO r files aq az).val
theorem U9 (r:ah) (files:List ak) (aq:List cS) (az:List Move):(wO r files aq az).dj (fun (x:Bool)=>x=true→r.Small∧r.cj∧r.il∧r.dg∧r.bu.length≤200∧(files.length≤50→∀ q,q < files.length→(files.getD q default).Small)):=by
 refine Sk.bz _ ?_
 unfold wO
 simp only [Sk.de,Sk.aI,reduceCtorEq,ON,kk,kp,CK,Ic,maxLen]
 intro x _ hx hc
 simp only [LN] at hc
 obtain ⟨a1,a2,a3,a4,a5,a6,a7,a8,a9,b1,b2,b3,b4⟩:=hx.2 hc.2
 exact ⟨(hx.1 hc.1).1,a6,a5,b3,a4,(hx.1 hc.1).2⟩
theorem Xd (r:ah) (files:List ak) (aq:List cS) (az:List Move):(wO r files aq az).bC (fun _=>True):=by
 refine Sk.aR _ ?_
 unfold wO
 simp only [Sk.jt,Sk.aI,reduceCtorEq,ON,kk,kp,CK,Ic,maxLen]
def Ig r files aq az:=kp tok mixed Tryz.func5 [av r.cells,lv ak.cells files,lv cS.cells aq,lv Move.cells az] (fun x=>bv x) true (acV r files aq az) (u0 (Xd r files aq az)) (U9 r files aq az)
def ua (f:ak) (kind:Int) (at_:Int):Sk (aJ) :=
 .bt
 (.loop (default:Sum (aJ) (Unit)) (fun i2=>i2≤f.facts.length) (fun i2=>f.facts.length - i2) (0:Nat)
 (fun (i2:Nat)=>⟨[(7,iv (i2:Int))],[]⟩) fun i2 =>
 .lt 3 18 i2 f.facts.length
 (.r 4 (.aj (.p (bU (i2:Int) f.facts.length)) (.wh (((f.facts.getD i2 default).kind) == kind) true (.p (bU (i2:Int) f.facts.length)))) fun _ =>
 .br ((((f.facts.getD i2 default).kind) == kind)&&(((f.facts.getD i2 default).at_) == at_))
 (.r 5 (.p (bU (i2:Int) f.facts.length)) fun _ =>
 .br (((f.facts.getD i2 default).n) == 0)
 (.fin (.inl (.inl ({ known:=true,n:=0 }:aJ))))
 (.fin (.inl (.inl ({ known:=true,n:=1 }:aJ)))))
 (.nx 3 7 i2 (i2+1)))
 (.fin (.inl (.inr ()))))
 (fun (_:Unit)=>⟨[],[]⟩) fun _ =>
 .fin ({ known:=false,n:=0 }:aJ)
def GA f kind at_:=(ua f kind at_).val
theorem Va (f:ak) (kind:Int) (at_:Int):(ua f kind at_).bC (fun _=>True):=by
 unfold ua
 exact mz
def ET f kind at_:=kk tok mixed Tryz.func17 [av f.cells,iv kind,iv at_] (fun x=>av x.cells) true (ua f kind at_) (GA f kind at_) (u0 (Va f kind at_))
def ub (f:ak) (x_:Fact):Sk (ak) :=
 .r 1 ((ET f x_.kind x_.at_).c) fun x1 =>
 .br x1.known
 (.fin f)
 (.bind true (fun b2=>b2.length≤0+f.facts.length)
 (.loop (default:Sum (ak) ((List Fact))) (fun i3=>i3.2≤f.facts.length∧i3.1.length≤0+i3.2) (fun i3=>f.facts.length - i3.2) (([],0):(List Fact) × Nat)
 (fun (i3:(List Fact) × Nat)=>⟨[(5,ow 100002 i3.1),(6,iv (i3.2:Int))],[(100002,bw 53 3 Fact.cells i3.1)]⟩) fun i3 =>
 .lt 2 18 i3.2 f.facts.length
 (.r 7 (.p (bU (i3.2:Int) f.facts.length)) fun _ =>
 .br ((decide (((f.facts.getD i3.2 default).at_) < x_.at_))||((((f.facts.getD i3.2 default).at_) == x_.at_)&&(decide (((f.facts.getD i3.2 default).kind) < x_.kind))))
 (.r 9 (.aj (.o [.eG (fm Fact.E [f.facts.getD i3.2 default])]) (.aj (.o [.eG (mX Fact.E i3.1 [f.facts.getD i3.2 default])]) (.aj (.t (Fact.E.ot [f.facts.getD i3.2 default])) (.p (yB i3.1.length [f.facts.getD i3.2 default].length 24))))) fun _ =>
 .nx 6 6 i3.2 (i3.1++[f.facts.getD i3.2 default],i3.2+1))
 (.nx 6 6 i3.2 (i3.1,i3.2+1)))
 (.fin (.inl (.inr i3.1))))
 (fun (b2:(List Fact))=>⟨[(5,ow 100001 b2)],[(100001,bw 53 3 Fact.cells b2)]⟩) fun b2 =>
 .r 10 (.aj (.o [.eG (fm Fact.E [x_])]) (.aj (.o [.eG (mX Fact.E b2 [x_])]) (.aj (.t (Fact.E.ot [x_])) (.p (yB b2.length [x_].length 24))))) fun _ =>
 .bind true (fun b4=>b4.length≤(b2++[x_]).length+f.facts.length)
 (.loop (default:Sum (ak) ((List Fact))) (fun i5=>i5.2≤f.facts.length∧i5.1.length≤(b2++[x_]).length+i5.2) (fun i5=>f.facts.length - i5.2) ((b2++[x_],0):(List Fact) × Nat)
 (fun (i5:(List Fact) × Nat)=>⟨[(5,ow 100005 i5.1),(8,iv (i5.2:Int))],[(100005,bw 53 3 Fact.cells i5.1)]⟩) fun i5 =>
 .lt 2 18 i5.2 f.facts.length
 (.r 14 (.p (bU (i5.2:Int) f.facts.length)) fun _ =>
 .br ((decide (((f.facts.getD i5.2 default).at_) > x_.at_))||((((f.facts.getD i5.2 default).at_) == x_.at_)&&(decide (((f.facts.getD i5.2 default).kind) > x_.kind))))
 (.r 16 (.aj (.o [.eG (fm Fact.E [f.facts.getD i5.2 default])]) (.aj (.o [.eG (mX Fact.E i5.1 [f.facts.getD i5.2 default])]) (.aj (.t (Fact.E.ot [f.facts.getD i5.2 default])) (.p (yB i5.1.length [f.facts.getD i5.2 default].length 24))))) fun _ =>
 .nx 13 8 i5.2 (i5.1++[f.facts.getD i5.2 default],i5.2+1))
 (.nx 13 8 i5.2 (i5.1,i5.2+1)))
 (.fin (.inl (.inr i5.1))))
 (fun (b4:(List Fact))=>⟨[(5,ow 100004 b4)],[(100004,bw 53 3 Fact.cells b4)]⟩) fun b4 =>
 .fin ({ f with facts:=b4 }))
def pS f x_:=(ub f x_).val
theorem Vb (f:ak) (x_:Fact) (hf:f.facts.length≤1000000):(ub f x_).bC (fun _=>True):=by
 unfold ub
 try simp only [ET]
 exact mz
def EU f x_:=kk tok mixed Tryz.func7 [av f.cells,av x_.cells] (fun x=>av x.cells) false (ub f x_) (pS f x_) (Vb f x_)
def pT (s:cS) (aB:List Int) (day:Int):Sk ((List Move)) :=
 .r 1 (.o [.eG (fm Move.E [({ kind:=0,aL:=0,day:=s.day,no:=0 }:Move)])]) fun _ =>
 .bind true (fun b1=>b1=(({ kind:=0,aL:=0,day:=s.day,no:=0 }:Move) :: (aB.map fun d=>({ kind:=1,aL:=0,day:=s.day,no:=d }:Move))))
 (.loop (default:Sum ((List Move)) ((List Move))) (fun i2=>i2.2≤aB.length∧i2.1=(({ kind:=0,aL:=0,day:=s.day,no:=0 }:Move) :: ((aB.take i2.2).map fun d=>({ kind:=1,aL:=0,day:=s.day,no:=d }:Move)))) (fun i2=>aB.length - i2.2) (([({ kind:=0,aL:=0,day:=s.day,no:=0 }:Move)],0):(List Move) × Nat)
 (fun (i2:(List Move) × Nat)=>⟨[(7,ow 100002 i2.1),(8,iv (i2.2:Int))],[(100002,bw 65 4 Move.cells i2.1)]⟩) fun i2 =>
 .lt 1 0 i2.2 aB.length
 (.r 5 (.aj (.p (bU (i2.2:Int) aB.length)) (.aj (.o [.eG (fm Move.E [({ kind:=1,aL:=0,day:=s.day,no:=aB.getD i2.2 default }:Move)])]) (.aj (.o [.eG (mX Move.E i2.1 [({ kind:=1,aL:=0,day:=s.day,no:=aB.getD i2.2 default }:Move)])]) (.aj (.t (Move.E.ot [({ kind:=1,aL:=0,day:=s.day,no:=aB.getD i2.2 default }:Move)])) (.p (yB i2.1.length [({ kind:=1,aL:=0,day:=s.day,no:=aB.getD i2.2 default }:Move)].length 32)))))) fun _ =>
 .nx 4 8 i2.2 (i2.1++[({ kind:=1,aL:=0,day:=s.day,no:=aB.getD i2.2 default }:Move)],i2.2+1))
 (.fin (.inl (.inr i2.1))))
 (fun (b1:(List Move))=>⟨[(7,ow 100001 b1)],[(100001,bw 65 4 Move.cells b1)]⟩) fun b1 =>
 .r 6 (.aj (.o [.eG (fm Move.E [({ kind:=4,aL:=0,day:=day,no:=0 }:Move)])]) (.aj (.o [.eG (mX Move.E b1 [({ kind:=4,aL:=0,day:=day,no:=0 }:Move)])]) (.aj (.t (Move.E.ot [({ kind:=4,aL:=0,day:=day,no:=0 }:Move)])) (.p (yB b1.length [({ kind:=4,aL:=0,day:=day,no:=0 }:Move)].length 32))))) fun _ =>
 .fin (b1++[({ kind:=4,aL:=0,day:=day,no:=0 }:Move)])
def AM s aB day:=(pT s aB day).val
theorem CM (s:cS) (aB:List Int) (day:Int):(pT s aB day).dj (fun (x:(List Move))=>x=(({ kind:=0,aL:=0,day:=s.day,no:=0 }:Move) :: (aB.map fun d=>({ kind:=1,aL:=0,day:=s.day,no:=d }:Move)))++[({ kind:=4,aL:=0,day:=day,no:=0 }:Move)]):=by
 refine Sk.bz _ ?_
 unfold pT
 simp only [Sk.de,Sk.aI,reduceCtorEq,ON,kk,kp,maxLen]
 all_goals simp only [LN] at *
 refine fun _=>⟨⟨⟨Nat.zero_le _,rfl⟩,fun i hi=>⟨fun hc _ _=>⟨⟨by omega,?_⟩,by omega⟩,fun hc=>?_⟩⟩,fun b hb _=>by rw [hb]⟩
 ·rw [qU (by omega),List.map_append,← List.cons_append,← hi.2]; rfl
 ·rw [hi.2,List.take_of_length_le (by omega)]
theorem A7 (s:cS) (aB:List Int) (day:Int):(fun (x:(List Move))=>x=(({ kind:=0,aL:=0,day:=s.day,no:=0 }:Move) :: (aB.map fun d=>({ kind:=1,aL:=0,day:=s.day,no:=d }:Move)))++[({ kind:=4,aL:=0,day:=day,no:=0 }:Move)]) (AM s aB day):=have h:=Sk.dk _ (CM s aB day); h
theorem PB (s:cS) (aB:List Int) (day:Int) (hd:aB.length≤100):(pT s aB day).bC (fun _=>True):=by
 refine Sk.aR _ ?_
 unfold pT
 simp only [Sk.jt,Sk.aI,reduceCtorEq,ON,kk,kp,maxLen]
 all_goals simp only [LN] at *
 refine fun _=>⟨⟨⟨Nat.zero_le _,rfl⟩,fun i hi _=>⟨fun hc=>⟨⟨⟨by omega,by omega⟩,?_⟩,fun _ _=>⟨?_,⟨by omega,?_⟩,by omega⟩⟩,fun hc=>?_⟩⟩,fun b hb=>?_⟩
 ·have:i.1.length≤101:=by rw [hi.2,List.length_cons,List.length_map,List.length_take]; omega
  omega
 ·rw [aA (by omega) (by omega)]; omega
 ·rw [qU (by omega),List.map_append,← List.cons_append,← hi.2]; rfl
 ·rw [hi.2,List.take_of_length_le (by omega)]
 ·have:b.length≤101:=by rw [hb,List.length_cons,List.length_map]; omega
  omega
def vm s aB day:=kp tok mixed Tryz.func9 [av s.cells,lv bI aB,iv day] (fun x=>lv Move.cells x) false (AM s aB day) (PB s aB day) (CM s aB day)
end
end Go.Proofs.YtonkchddcgcopaaGreatDoor
