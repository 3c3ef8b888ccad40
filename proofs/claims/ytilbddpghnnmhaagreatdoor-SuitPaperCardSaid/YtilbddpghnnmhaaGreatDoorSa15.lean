/- Functions, as sketches. -/
import Derived.Test.YtilbddpghnnmhaaGreatDoorSa14
namespace Go.Proofs.YtilbddpghnnmhaaGreatDoor
noncomputable section
open Go Go.Av
set_option linter.unusedSimpArgs false
set_option linter.unusedVariables false
set_option maxHeartbeats 1000000
set_option maxRecDepth 100000
def VG (r:jg) (forum:Int) (f:jh) (c_:Claim) (day:Int):Sk (Int × Int) :=
 .r 1 ((ju f day).c) fun x1 =>
 .br ((decide (c_.sign < 0))||(decide (c_.sign≥((x1.signs.length:Nat):Int))))
 (.fin (0,1))
 (.r 4 ((Bh r forum x1 c_ day).c) fun x2 =>
 .r 5 ((jS r forum x1 day).c) fun x3 =>
 .r 6 ((qN r forum x2.1 ({ file:=x1,sign:=c_.sign,holder:=c_.sign,defence:=(-1),due:=x3,day:=day }:ke)).c) fun x4 =>
 .br ((x4.err != 0)||(x2.2 == (-1)))
 (.fin (0,4))
 (.br (!x4.cell.known)
 (.fin (0,17))
 (.bind true (fun _=>True)
 (.loop (default:Sum (Int × Int) (Int)) (fun i6=>i6.2≤x1.acts.length) (fun i6=>x1.acts.length - i6.2) ((w64 (x2.2+x4.cell.n),0):Int × Nat)
 (fun (i6:Int × Nat)=>⟨[(16,iv i6.1),(80,iv (i6.2:Int))],[]⟩) fun i6 =>
 .bnd 78 0 x1.acts.length <|
 .br (decide ((i6.2:Int) < ((x1.acts.length:Nat):Int)))
 (.r 14 (.p (ixP (i6.2:Int) x1.acts.length)) fun _ =>
 .r 15 ((Uj (x1.acts.getD i6.2 default) c_).c) fun x7 =>
 .br ((x7&&(decide (((x1.acts.getD i6.2 default).day)≥x2.2)))&&(decide (((x1.acts.getD i6.2 default).day)≤i6.1)))
 (.r 17 .z fun _ =>
 .wi 80 (w64 ((i6.2:Int)+1)) ((i6.2+1:Nat):Int) <|
 .fin (.inr (w64 (((x1.acts.getD i6.2 default).day)+x4.cell.n),i6.2+1)))
 (.r 17 .z fun _ =>
 .wi 80 (w64 ((i6.2:Int)+1)) ((i6.2+1:Nat):Int) <|
 .fin (.inr (i6.1,i6.2+1))))
 (.fin (.inl (.inr i6.1))))
 (fun (b5:Int)=>⟨[(16,iv b5)],[]⟩) fun b5 =>
 .fin (b5,0))))
def zpt (r:jg) (forum:Int) (f:jh) (c_:Claim) (day:Int):Int × Int:=(VG r forum f c_ day).val
theorem zkZ (r:jg) (forum:Int) (f:jh) (c_:Claim) (day:Int) (h_f_Small:f.Small) (h_r_ByOK:r.ByOK) (h_r_Small:r.Small):(VG r forum f c_ day).obs (fun _=>True):=by
 simp only [jh.Small,jg.Small,jg.ByOK] at h_f_Small
 simp only [jh.Small,jg.Small,jg.ByOK] at h_r_ByOK
 simp only [jh.Small,jg.Small,jg.ByOK] at h_r_Small
 unfold VG
 try simp only [qN,jS,Uj,Bh,ju,jh.Small,jg.Small,jg.ByOK]
 exact okD
def zdh (r:jg) (forum:Int) (f:jh) (c_:Claim) (day:Int):Ctr (Int × Int):=kk tok mixed Tryz.func54 [av r.cells,iv forum,av f.cells,av c_.cells,iv day] (fun x=>.tup [iv x.1,iv x.2]) true (VG r forum f c_ day) (zpt r forum f c_ day) (fun (h:(f.Small)∧(r.ByOK)∧(r.Small))=>zkZ r forum f c_ day h.1 h.2.1 h.2.2)
theorem of_eq (r:jg) (c:ke):znB r c=({ c with file:=ji c.file c.day },XQ r { c with file:=ji c.file c.day }):=rfl
def JX (r:jg) (forum:Int) (f:jh) (c_:Claim) (day:Int):Sk (Int) :=
 .r 1 ((zdh r forum f c_ day).c) fun x1 =>
 .br (x1.2 == 17)
 (.fin 2)
 (.br ((x1.2 == 0)&&(decide (day > x1.1)))
 (.fin 1)
 (.fin 0))
def zI (r:jg) (forum:Int) (f:jh) (c_:Claim) (day:Int):Int:=(JX r forum f c_ day).val
theorem zer (r:jg) (forum:Int) (f:jh) (c_:Claim) (day:Int) (h_f_Small:f.Small) (h_r_ByOK:r.ByOK) (h_r_Small:r.Small):(JX r forum f c_ day).obs (fun _=>True):=by
 simp only [jh.Small,jg.Small,jg.ByOK] at h_f_Small
 simp only [jh.Small,jg.Small,jg.ByOK] at h_r_ByOK
 simp only [jh.Small,jg.Small,jg.ByOK] at h_r_Small
 unfold JX
 try simp only [zdh,jh.Small,jg.Small,jg.ByOK]
 exact okD
def gB (r:jg) (forum:Int) (f:jh) (c_:Claim) (day:Int):Ctr (Int):=kk tok mixed Tryz.func32 [av r.cells,iv forum,av f.cells,av c_.cells,iv day] (fun x=>iv x) true (JX r forum f c_ day) (zI r forum f c_ day) (fun (h:(f.Small)∧(r.ByOK)∧(r.Small))=>zer r forum f c_ day h.1 h.2.1 h.2.2)
def yn (c_:Claim) (v:jg) (v':Int) (v'':jh) (v''':Int):Sk (Bool) :=
 .r 1 ((gB v v' v'' c_ v''').c) fun x1 =>
 .fin (x1 == 1)
def jy (c_:Claim) (v:jg) (v':Int) (v'':jh) (v''':Int):Bool:=(yn c_ v v' v'' v''').val
theorem Br (c_:Claim) (v:jg) (v':Int) (v'':jh) (v''':Int) (hs'':v''.Small) (h_v_ByOK:v.ByOK) (h_v_Small:v.Small):(yn c_ v v' v'' v''').obs (fun _=>True):=by
 simp only [jh.Small,jg.Small,jg.ByOK] at hs''
 simp only [jh.Small,jg.Small,jg.ByOK] at h_v_ByOK
 simp only [jh.Small,jg.Small,jg.ByOK] at h_v_Small
 unfold yn
 try simp only [gB,jh.Small,jg.Small,jg.ByOK]
 exact okD
def zw (c_:Claim) (v:jg) (v':Int) (v'':jh) (v''':Int):Ctr (Bool):=kk tok mixed Tryz.func31 [av c_.cells,.ref v.cells,.ref [dI v'],.ref v''.cells,.ref [dI v''']] (fun x=>bv x) true (yn c_ v v' v'' v''') (jy c_ v v' v'' v''') (fun (h:(v''.Small)∧(v.ByOK)∧(v.Small))=>Br c_ v v' v'' v''' h.1 h.2.1 h.2.2)
def kW (s:List Claim) (v:jg) (v':Int) (v'':jh) (v''':Int):Sk (Int) :=
 .bind true (fun b1=>∀ q,q < s.length→jy (s.getD q default) v v' v'' v'''=false)
 (.loop (default:Sum (Int) (Unit)) (fun i2=>∀ q,q < i2→jy (s.getD q default) v v' v'' v'''=false) (fun i2=>s.length - i2) (0:Nat)
 (fun (i2:Nat)=>⟨[(8,iv (i2:Int))],[]⟩) fun i2 =>
 .bnd 0 0 s.length <|
 .br (decide ((i2:Int) < ((s.length:Nat):Int)))
 (.r 4 (.andl (.p (ixP (i2:Int) s.length)) ((zw (s.getD i2 default) v v' v'' v''').c)) fun x3 =>
 .br x3
 (.fin (.inl (.inl (i2:Int))))
 (.r 6 .z fun _ =>
 .wi 8 (w64 ((i2:Int)+1)) ((i2+1:Nat):Int) <|
 .fin (.inr (i2+1))))
 (.fin (.inl (.inr ()))))
 (fun (_:Unit)=>⟨[],[]⟩) fun _ =>
 .fin (-1)
def Vt (s:List Claim) (v:jg) (v':Int) (v'':jh) (v''':Int):Int:=(kW s v v' v'' v''').val
theorem Gw (s:List Claim) (v:jg) (v':Int) (v'':jh) (v''':Int):(kW s v v' v'' v''').pst (fun (x:Int)=>(x = -1∧∀ q,q < s.length→jy (s.getD q default) v v' v'' v'''=false)∨(0≤x∧x < s.length∧jy (s.getD x.toNat default) v v' v'' v'''=true∧∀ q,(q:Nat) < x.toNat→jy (s.getD q default) v v' v'' v'''=false)):=by
 unfold kW
 try simp only [zw,jh.Small,jg.Small,jg.ByOK]
 exact okP
theorem Gh (s:List Claim) (v:jg) (v':Int) (v'':jh) (v''':Int):(fun (x:Int)=>(x = -1∧∀ q,q < s.length→jy (s.getD q default) v v' v'' v'''=false)∨(0≤x∧x < s.length∧jy (s.getD x.toNat default) v v' v'' v'''=true∧∀ q,(q:Nat) < x.toNat→jy (s.getD q default) v v' v'' v'''=false)) (Vt s v v' v'' v'''):=have h:=Sk.pval _ (Gw s v v' v'' v'''); h
theorem WT (s:List Claim) (v:jg) (v':Int) (v'':jh) (v''':Int) (h_v___Small:v''.Small) (h_v_ByOK:v.ByOK) (h_v_Small:v.Small):(kW s v v' v'' v''').obs (fun _=>True):=by
 simp only [jh.Small,jg.Small,jg.ByOK] at h_v___Small
 simp only [jh.Small,jg.Small,jg.ByOK] at h_v_ByOK
 simp only [jh.Small,jg.Small,jg.ByOK] at h_v_Small
 unfold kW
 try simp only [zw,jh.Small,jg.Small,jg.ByOK]
 exact okD
def yX (s:List Claim) (v:jg) (v':Int) (v'':jh) (v''':Int):Ctr (Int):=kk tok mixed Tryz.func52 [lv Claim.cells s,.fn 31 [.ref v.cells,.ref [dI v'],.ref v''.cells,.ref [dI v''']]] (fun x=>iv x) true (kW s v v' v'' v''') (Vt s v v' v'' v''') (fun (h:(v''.Small)∧(v.ByOK)∧(v.Small))=>WT s v v' v'' v''' h.1 h.2.1 h.2.2) (fun (x:Int)=>(x = -1∧∀ q,q < s.length→jy (s.getD q default) v v' v'' v'''=false)∨(0≤x∧x < s.length∧jy (s.getD x.toNat default) v v' v'' v'''=true∧∀ q,(q:Nat) < x.toNat→jy (s.getD q default) v v' v'' v'''=false)) (Gh s v v' v'' v''')
structure zck {α:Type} [Inhabited α] (del:α→Bool) (s l:List α) (i j:Int):Prop where
 len:l.length=s.length
 i0:0≤i
 ij:i < j
 jn:j≤(s.length:Int)
 kept:l.take i.toNat=(s.take j.toNat).filter fun c=>!del c
 rest:∀ q:Nat,j≤(q:Int)→q < s.length→l.getD q default=s.getD q default
theorem Qb {α:Type} [Inhabited α] {l:List α} {n:Nat} (h:n < l.length):l.take (n+1)=l.take n++[l.getD n default]:=by
 rw [List.take_add_one]
 simp [List.getD,h]
theorem filter_all {α:Type} [Inhabited α] {p:α→Bool} {l:List α} {n:Nat} (hn:n≤l.length) (h:∀ q,q < n→p (l.getD q default)=true):(l.take n).filter p=l.take n:=by
 refine List.filter_eq_self.2 (fun x hx=>?_)
 obtain ⟨q,hq,rfl⟩:=List.getElem_of_mem hx
 have hq':q < n:=by simp at hq; omega
 have:=h q hq'
 rw [show l.getD q default=(l.take n)[q] by simp [List.getD,List.getElem?_eq_getElem (show q < l.length by omega)]] at this
 exact this
theorem zck.init {α:Type} [Inhabited α] {del:α→Bool} {s:List α} {x:Int} (h0:0≤x) (h1:x < (s.length:Int)) (hd:del (s.getD x.toNat default)=true) (hk:∀ q,q < x.toNat→del (s.getD q default)=false):zck del s s x (x+1):=by
 refine ⟨rfl,h0,by omega,by omega,?_,fun _ _ _=>rfl⟩
 rw [show (x+1).toNat=x.toNat+1 by omega,Qb (by omega),List.filter_append,filter_all (by omega) (fun q hq=>by rw [hk q hq]; rfl)]
 simp only [List.filter_cons,hd,Bool.not_true,Bool.false_eq_true,if_false,List.filter_nil,List.append_nil]
theorem zck.keep {α:Type} [Inhabited α] {del:α→Bool} {s l:List α} {i j:Int} (h:zck del s l i j) (hj:j < (l.length:Int)) (hd:del (l.getD j.toNat default)=false):zck del s (l.set i.toNat (l.getD j.toNat default)) (i+1) (j+1):=by
 have hl:=h.len
 have h0:=h.i0
 have h1:=h.ij
 have hr:=h.rest j.toNat (by omega) (by omega)
 refine ⟨by simpa using hl,by omega,by omega,by omega,?_,fun q hq hq2=>?_⟩
 ·rw [show (i+1).toNat=i.toNat+1 by omega,show (j+1).toNat=j.toNat+1 by omega,Qb (by simp; omega),Qb (l:=s) (by omega),List.filter_append,← h.kept,List.take_set_of_le (Nat.le_refl _)]
  congr 1
  rw [hr] at hd ⊢
  simp only [List.filter_cons,hd,Bool.not_false,if_true,List.filter_nil]
  simp [List.getD,show i.toNat < l.length by omega]
 ·rw [← h.rest q (by omega) hq2]
  simp only [List.getD]
  rw [List.getElem?_set_ne (by omega)]
theorem zck.drop {α:Type} [Inhabited α] {del:α→Bool} {s l:List α} {i j:Int} (h:zck del s l i j) (hj:j < (l.length:Int)) (hd:del (l.getD j.toNat default)=true):zck del s l i (j+1):=by
 have hl:=h.len
 have h0:=h.i0
 have h1:=h.ij
 have hr:=h.rest j.toNat (by omega) (by omega)
 refine ⟨hl,by omega,by omega,by omega,?_,fun q hq hq2=>h.rest q (by omega) hq2⟩
 rw [show (j+1).toNat=j.toNat+1 by omega,Qb (l:=s) (by omega),List.filter_append,← h.kept]
 rw [hr] at hd
 simp only [List.filter_cons,hd,Bool.not_true,Bool.false_eq_true,if_false,List.filter_nil,List.append_nil]
def zp7 {α:Type} (del:α→Bool) (s l:List α) (i:Int):Prop:=l.length=s.length∧0≤i∧i≤(s.length:Int)∧l.take i.toNat=s.filter fun c=>!del c
theorem zck.done {α:Type} [Inhabited α] {del:α→Bool} {s l:List α} {i j:Int} (h:zck del s l i j) (hj:¬ j < (l.length:Int)):zp7 del s l i:=by
 have hl:=h.len
 have h1:=h.ij
 have h2:=h.jn
 refine ⟨hl,h.i0,by omega,?_⟩
 rw [h.kept,List.take_of_length_le (by omega)]
theorem zo2 {α:Type} [Inhabited α] {l:List α} {n:Nat} (h:n≤l.length):uZ l 0 n=l.take n:=by
 refine List.ext_getElem (by simp [uZ,h]) (fun q h1 h2=>?_)
 have hq:q < l.length:=by simp at h2; omega
 simp [uZ,List.getD,hq]
theorem zp7.res {α:Type} [Inhabited α] {del:α→Bool} {s l:List α} {i:Int} {z:α} (h:zp7 del s l i):uZ (zcF l i.toNat z) 0 i.toNat=s.filter fun c=>!del c:=by
 have h2:=h.1
 have h3:=h.2.2.1
 rw [← h.2.2.2,zo2 (by rw [Hc]; omega)]
 simp only [zcF]
 rw [List.take_append_of_le_length (by simp; omega),List.take_take,Nat.min_self]
theorem zm9 {α:Type} [Inhabited α] {del:α→Bool} {s:List α} (h:∀ q,q < s.length→del (s.getD q default)=false):s=s.filter fun c=>!del c:=by
 have:=filter_all (p:=fun c=>!del c) (l:=s) (n:=s.length) (Nat.le_refl _) (fun q hq=>by rw [h q hq]; rfl)
 rw [List.take_length] at this
 exact this.symm
def kN (s:List Claim) (v:jg) (v':Int) (v'':jh) (v''':Int):Sk ((List Claim)) :=
 .r 1 ((yX s v v' v'' v''').c) fun x1 =>
 .br (x1 == (-1))
 (.fin s)
 (.bind true (fun b2=>zp7 (fun c_=>jy c_ v v' v'' v''') s b2.1 b2.2)
 (.loop (default:Sum ((List Claim)) ((List Claim) × Int)) (fun i3=>zck (fun c_=>jy c_ v v' v'' v''') s i3.1 i3.2.1 i3.2.2) (fun i3=>((s.length:Int) - i3.2.2).toNat) ((s,x1,w64 (x1+1)):(List Claim) × Int × Int)
 (fun (i3:(List Claim) × Int × Int)=>⟨[(0,ow 100002 i3.1),(5,iv i3.2.1),(6,iv i3.2.2)],[(100002,jz 67 9 Claim.cells i3.1)]⟩) fun i3 =>
 .br (decide (i3.2.2 < ((i3.1.length:Nat):Int)))
 (.r 7 (.andl (.p (ixP i3.2.2 i3.1.length)) (.p (i3.2.2.toNat < i3.1.length))) fun _ =>
 .r 8 ((zw (i3.1.getD i3.2.2.toNat default) v v' v'' v''').c) fun x4 =>
 .br (!x4)
 (.r 9 (.andl (.p (ixP i3.2.1 i3.1.length)) (.andl (.o [.nrm (VI Claim.E i3.1 i3.2.1.toNat (i3.1.getD i3.2.2.toNat default))]) (.p (i3.2.1.toNat < i3.1.length)))) fun _ =>
 .wn 100002 i3.1.length (i3.1.set i3.2.1.toNat (i3.1.getD i3.2.2.toNat default)).length <|
 .fin (.inr (i3.1.set i3.2.1.toNat (i3.1.getD i3.2.2.toNat default),w64 (i3.2.1+1),w64 (i3.2.2+1))))
 (.fin (.inr (i3.1,i3.2.1,w64 (i3.2.2+1)))))
 (.fin (.inl (.inr (i3.1,i3.2.1)))))
 (fun (b2:(List Claim) × Int)=>⟨[(0,ow 100001 b2.1),(5,iv b2.2)],[(100001,jz 67 9 Claim.cells b2.1)]⟩) fun b2 =>
 .clr 11 b2.2 (zsZ Claim.E b2.1 b2.2.toNat ({ debtor:=0,creditor:=0,part:=0,sign:=0,by_:=0,turn:=0,sum:=0,currency:=0,state:=0 }:Claim) [dI 0,dI 0,dI 0,dI 0,dI 0,dI 0,dI 0,dI 0,dI 0] (by kernel_rfl)) <|
 .r 12 (.andl (.o [.nrm (zsI Claim.E (zcF b2.1 b2.2.toNat ({ debtor:=0,creditor:=0,part:=0,sign:=0,by_:=0,turn:=0,sum:=0,currency:=0,state:=0 }:Claim)) b2.2.toNat)]) (.p (0≤b2.2∧b2.2≤(((zcF b2.1 b2.2.toNat ({ debtor:=0,creditor:=0,part:=0,sign:=0,by_:=0,turn:=0,sum:=0,currency:=0,state:=0 }:Claim)).length:Nat):Int)))) fun _ =>
 .fin (uZ (zcF b2.1 b2.2.toNat ({ debtor:=0,creditor:=0,part:=0,sign:=0,by_:=0,turn:=0,sum:=0,currency:=0,state:=0 }:Claim)) 0 b2.2.toNat))
def vK (s:List Claim) (v:jg) (v':Int) (v'':jh) (v''':Int):(List Claim):=(kN s v v' v'' v''').val
theorem YD (s:List Claim) (v:jg) (v':Int) (v'':jh) (v''':Int) (hP:s.length≤1000000000):(kN s v v' v'' v''').pst (fun (x:(List Claim))=>x=s.filter fun c_=>!jy c_ v v' v'' v'''):=by
 refine Sk.pst_of _ ?_
 unfold kN
 simp only [Sk.pstq,Sk.isLoop,reduceCtorEq,ON,kk,zw,yX,maxLen]
 intro x _ hx
 refine ⟨fun hc=>zm9 (del:=(fun c_=>jy c_ v v' v'' v''')) (hx.elim (fun h=>h.2) (fun h=>absurd (beq_iff_eq.1 hc) (by omega))),fun hc=>⟨⟨?_,fun i hi=>⟨fun hj _ y hy=>⟨fun hn _=>?_,fun hn=>?_⟩,fun hj=>?_⟩⟩,fun b hb _=>zp7.res (del:=(fun c_=>jy c_ v v' v'' v''')) hb⟩⟩
 all_goals simp only [LN] at hc
 ·have hx:=hx.resolve_left (fun e=>hc e.1)
  rw [jj (by omega) (by omega)]
  exact zck.init (del:=(fun c_=>jy c_ v v' v'' v''')) hx.1 hx.2.1 hx.2.2.1 hx.2.2.2
 all_goals have hj2:=hi.len
 all_goals have hj3:=hi.i0
 all_goals have hj4:=hi.ij
 all_goals have hj5:=hi.jn
 all_goals simp only [LN] at hj
 ·rw [jj (n:=i.2.1+1) (by omega) (by omega),jj (n:=i.2.2+1) (by omega) (by omega)]
  exact ⟨hi.keep (by omega) (by subst hy; simpa using hn),by omega⟩
 ·rw [jj (by omega) (by omega)]
  exact ⟨hi.drop (by omega) (by subst hy; simpa using hn),by omega⟩
 ·exact hi.done (by omega)
theorem UP (s:List Claim) (v:jg) (v':Int) (v'':jh) (v''':Int):(fun (x:(List Claim))=>(s.length≤1000000000)→(x=s.filter fun c_=>!jy c_ v v' v'' v''')) (vK s v v' v'' v'''):=fun hP=>Sk.pval _ (YD s v v' v'' v''' hP)
theorem Gm (s:List Claim) (v:jg) (v':Int) (v'':jh) (v''':Int) (hs:s.length≤1000000000) (h_v___Small:v''.Small) (h_v_ByOK:v.ByOK) (h_v_Small:v.Small):(kN s v v' v'' v''').obs (fun _=>True):=by
 refine Sk.obs_of _ ?_
 unfold kN
 simp only [Sk.obq,Sk.isLoop,reduceCtorEq,ON,kk,zw,yX,maxLen]
 refine ⟨by (repeat' first | assumption | trivial | apply And.intro),fun x _ hx hc=>⟨⟨?_,fun i hi=>⟨fun hj=>⟨?_,fun _=>⟨by (repeat' first | assumption | trivial | apply And.intro),fun y hy=>⟨fun hn=>⟨?_,fun _=>⟨?_,?_⟩⟩,fun hn=>?_⟩⟩⟩,fun hj=>?_⟩⟩,fun b hb=>?_⟩⟩
 all_goals simp only [LN] at hc
 ·have hx:=hx.resolve_left (fun e=>hc e.1)
  rw [jj (by omega) (by omega)]
  exact zck.init (del:=(fun c_=>jy c_ v v' v'' v''')) hx.1 hx.2.1 hx.2.2.1 hx.2.2.2
 rotate_right 1
 ·have h1:=hb.1
  have h2:=hb.2.1
  have h3:=hb.2.2.1
  refine ⟨⟨h2,?_⟩,h2,by rw [Hc]; omega⟩
  show b.2≤((b.1.length:Nat):Int)
  omega
 all_goals have hj2:=hi.len
 all_goals have hj3:=hi.i0
 all_goals have hj4:=hi.ij
 all_goals have hj5:=hi.jn
 all_goals simp only [LN] at hj
 ·omega
 ·omega
 ·rw [List.length_set]
 ·rw [jj (n:=i.2.1+1) (by omega) (by omega),jj (n:=i.2.2+1) (by omega) (by omega)]
  exact ⟨hi.keep (by omega) (by subst hy; simpa using hn),by omega⟩
 ·rw [jj (by omega) (by omega)]
  exact ⟨hi.drop (by omega) (by subst hy; simpa using hn),by omega⟩
 ·exact hi.done (by omega)
theorem YL (s:List Claim) (v:jg) (v':Int) (v'':jh) (v''':Int) (hs:s.length≤1000000000) (h_v___Small:v''.Small) (h_v_ByOK:v.ByOK) (h_v_Small:v.Small):FnA Tryz.prog 29 [ow 777776 s,.fn 31 [.ref v.cells,.ref [dI v'],.ref v''.cells,.ref [dI v''']]] [(777776,jz 67 9 Claim.cells s)] (ow 777777 (vK s v v' v'' v''')) [(777777,jz 67 9 Claim.cells (vK s v v' v'' v'''))] :=
 FnA.sk tok mixed (fun x=>ow 777777 x) (fun x=>[(777777,jz 67 9 Claim.cells x)]) Tryz.func29 rfl (by kernel_rfl) 3000 (kN s v v' v'' v''') (by kernel_rfl) (Gm s v v' v'' v''' hs h_v___Small h_v_ByOK h_v_Small)
def qu (κ κ':Nat) (s:List Claim) (v:jg) (v':Int) (v'':jh) (v''':Int):WY ((List Claim)):=⟨Tryz.prog,29,[ow κ s,.fn 31 [.ref v.cells,.ref [dI v'],.ref v''.cells,.ref [dI v''']]],[(κ,jz 67 9 Claim.cells s)],fun x=>ow κ' x,fun x=>[(κ',jz 67 9 Claim.cells x)],vK s v v' v'' v''',(s.length≤1000000000)∧(v''.Small)∧(v.ByOK)∧(v.Small),fun h=>FnA.rekeyA κ rfl (FnA.rekeyR κ' (YL s v v' v'' v''' h.1 h.2.1 h.2.2.1 h.2.2.2)),fun (x:(List Claim))=>(s.length≤1000000000)→(x=s.filter fun c_=>!jy c_ v v' v'' v'''),UP s v v' v'' v'''⟩
theorem zmS {α:Type} (g:α→α) (l:List α) (n:Nat):((l.take n).map g++l.drop n).length=l.length:=by
 simp only [List.length_append,List.length_map,List.length_take,List.length_drop]
 omega
theorem GH {α:Type} [Inhabited α] (g:α→α) {l:List α} {n:Nat} (h:n < l.length):((l.take n).map g++l.drop n).getD n default=l.getD n default:=by
 simp only [List.getD]
 rw [List.getElem?_append_right (by simp; omega)]
 have:n - ((l.take n).map g).length=0:=by simp; omega
 rw [this,List.getElem?_drop,Nat.add_zero]
theorem zfz {α:Type} [Inhabited α] (g:α→α) {l:List α} {n:Nat} (h:n < l.length):((l.take n).map g++l.drop n).set n (g (l.getD n default))=(l.take (n+1)).map g++l.drop (n+1):=by
 have h1:((l.take n).map g).length=n:=by simp; omega
 have h2:l[n]?.toList=[l.getD n default]:=by simp [List.getD,h]
 rw [List.set_append_right _ _ (by omega),h1,Nat.sub_self,List.take_add_one,h2,List.drop_eq_getElem_cons h,List.set_cons_zero,List.map_append,List.append_assoc,List.map_cons,List.map_nil,List.singleton_append]
theorem zjd {α:Type} [Inhabited α] (g:α→α) {l:List α} {n:Nat} (h:n < l.length) (hg:g (l.getD n default)=l.getD n default):(l.take n).map g++l.drop n=(l.take (n+1)).map g++l.drop (n+1):=by
 rw [← zfz g h,hg,← GH g h]
 have h2:n < ((l.take n).map g++l.drop n).length:=by rw [zmS]; exact h
 generalize (l.take n).map g++l.drop n=m at h2
 refine List.ext_getElem (by simp) (fun i h3 h4=>?_)
 rw [List.getElem_set]
 split
 ·rename_i e
  subst e
  simp [List.getD,h2]
 ·rfl
theorem zlm {α:Type} (g:α→α) {l:List α} {n:Nat} (h:l.length≤n):(l.take n).map g++l.drop n=l.map g:=by
 rw [List.take_of_length_le h,List.drop_of_length_le h,List.append_nil]
theorem zbr {r:jg} {forum:Int} {f:jh} {day:Int} {l:List Claim} (hF:jX r f) (h:Qm (ji f day) (qo r forum f day) (ji f day).acts.length l):l.length≤1000000000:=by
 have h1:=h.count.1
 have h2:=zfL (forum:=forum) (day:=day) hF
 have h3:=hF.2.1.2.2.2.1
 have h5:=(Um f day).2.1
 have h4:=Nat.mul_le_mul (show (ji f day).acts.length≤100 by omega) h2
 omega
def zbo (r:jg) (forum:Int) (f:jh) (day:Int) (c:Claim):Claim:=bif zI r forum f c day == 2 then { c with state:=2 } else c
def Gu (r:jg) (forum:Int) (f:jh) (day:Int) (c:Claim):Bool:=!(zI r forum f c day == 1)
theorem zkz (r:jg) (forum:Int) (f:jh) (day:Int):(fun c_=>!jy c_ r forum f day)=Gu r forum f day:=by
 funext c
 show (!jy c r forum f day) = !(zI r forum f c day == 1)
 congr 1
def vG (r:jg) (forum:Int) (f:jh) (day:Int):Sk ((List Claim)) :=
 .r 0 (.andl (.o [.pur 4]) (.andl (.o [.pur 5]) (.andl (.o [.pur 6]) (.o [.pur 7])))) fun _ =>
 .r 1 (.dep ((YZ 16 r forum f day).c) fun x1=>(qu 16 18 x1 r forum f day).c) fun p6 =>
 .bind true (fun b3=>b3=p6.2.map (zbo r forum f day))
 (.loop (default:Sum ((List Claim)) ((List Claim))) (fun i4=>i4.2≤p6.2.length∧i4.1=(p6.2.take i4.2).map (zbo r forum f day)++p6.2.drop i4.2) (fun i4=>p6.2.length - i4.2) ((p6.2,0):(List Claim) × Nat)
 (fun (i4:(List Claim) × Nat)=>⟨[(9,ow 100002 i4.1),(19,ow 100002 i4.1),(21,iv (i4.2:Int))],[(100002,jz 67 9 Claim.cells i4.1)]⟩) fun i4 =>
 .br (decide ((i4.2:Int) < ((p6.2.length:Nat):Int)))
 (.r 4 (.andl (.p (ixP (i4.2:Int) i4.1.length)) (.p (i4.2 < i4.1.length))) fun _ =>
 .r 5 ((gB r forum f (i4.1.getD i4.2 default) day).c) fun x5 =>
 .br (x5 == 2)
 (.r 6 (.andl (.p (ixP (i4.2:Int) i4.1.length)) (.andl (.o [.nrm (VI Claim.E i4.1 i4.2 ({ i4.1.getD i4.2 default with state:=2 }))]) (.p (i4.2 < i4.1.length)))) fun _ =>
 .wn 100002 i4.1.length (i4.1.set i4.2 ({ i4.1.getD i4.2 default with state:=2 })).length <|
 .r 7 .z fun _ =>
 .wi 21 (w64 ((i4.2:Int)+1)) ((i4.2+1:Nat):Int) <|
 .fin (.inr (i4.1.set i4.2 ({ i4.1.getD i4.2 default with state:=2 }),i4.2+1)))
 (.r 7 .z fun _ =>
 .wi 21 (w64 ((i4.2:Int)+1)) ((i4.2+1:Nat):Int) <|
 .fin (.inr (i4.1,i4.2+1))))
 (.fin (.inl (.inr i4.1))))
 (fun (b3:(List Claim))=>⟨[(9,ow 100001 b3)],[(100001,jz 67 9 Claim.cells b3)]⟩) fun b3 =>
 .fin b3
def kE (r:jg) (forum:Int) (f:jh) (day:Int):(List Claim):=(vG r forum f day).val
theorem zb3 (r:jg) (forum:Int) (f:jh) (day:Int) (hP:jX r f):(vG r forum f day).pst (fun (x:(List Claim))=>x=((gK r forum f day).filter (Gu r forum f day)).map (zbo r forum f day)):=by
 refine Sk.pst_of _ ?_
 unfold vG
 simp only [Sk.pstq,Sk.isLoop,reduceCtorEq,ON,kk,gB,YZ,qu,qu,WY.c,maxLen]
 have hg:∀ c,zI r forum f c day=2→zbo r forum f day c = { c with state:=2 }:=fun c h=>by unfold zbo; rw [h]; rfl
 have hn:∀ c,zI r forum f c day≠2→zbo r forum f day c=c:=fun c h=>by unfold zbo; rw [beq_eq_false_iff_ne.2 h]; rfl
 intro _ x hx hp
 have hd:x.2=(gK r forum f day).filter (Gu r forum f day):=by
  have:=hp.2 (by rw [hx] at hp ⊢; exact zbr hP hp.1)
  rw [this,zkz,hx]
 refine ⟨⟨⟨Nat.zero_le _,by simp⟩,fun i hi=>⟨fun hc _ y hy=>⟨fun h2 _ _=>?_,fun h2 _=>?_⟩,fun hc=>?_⟩⟩,fun b hb=>by rw [hb,hd]⟩
 all_goals simp only [LN] at hc
 ·simp only [LN] at h2
  rw [hi.2,GH _ (by omega)] at hy
  refine ⟨⟨by omega,?_⟩,by omega⟩
  rw [← zfz _ (by omega),hi.2,GH _ (by omega),hg _ (by omega)]
 ·simp only [LN] at h2
  rw [hi.2,GH _ (by omega)] at hy
  refine ⟨⟨by omega,?_⟩,by omega⟩
  rw [← zjd _ (by omega) (hn _ (by omega))]
  exact hi.2
 ·rw [hi.2,zlm _ (by omega)]
theorem UZ (r:jg) (forum:Int) (f:jh) (day:Int):(fun (x:(List Claim))=>(jX r f)→(x=((gK r forum f day).filter (Gu r forum f day)).map (zbo r forum f day))) (kE r forum f day):=fun hP=>Sk.pval _ (zb3 r forum f day hP)
theorem zdJ (r:jg) (forum:Int) (f:jh) (day:Int) (hF:jX r f) (h_f_Small:f.Small) (h_r_ByOK:r.ByOK) (h_r_Small:r.Small) (h_r_FirmOK:r.FirmOK) (h_r_RateOK:r.RateOK):(vG r forum f day).obs (fun _=>True):=by
 refine Sk.obs_of _ ?_
 unfold vG
 simp only [Sk.obq,Sk.isLoop,reduceCtorEq,ON,kk,gB,YZ,qu,qu,WY.c,maxLen]
 have hg:∀ c,zI r forum f c day=2→zbo r forum f day c = { c with state:=2 }:=fun c h=>by unfold zbo; rw [h]; rfl
 have hn:∀ c,zI r forum f c day≠2→zbo r forum f day c=c:=fun c h=>by unfold zbo; rw [beq_eq_false_iff_ne.2 h]; rfl
 refine fun _=>⟨⟨⟨hF,h_f_Small,h_r_ByOK,h_r_Small,h_r_FirmOK,h_r_RateOK⟩,fun x _ hp=>⟨zbr hF hp,by (repeat' first | assumption | trivial | apply And.intro)⟩⟩,fun x hx hp=>⟨⟨Nat.zero_le _,by simp⟩,fun i hi=>⟨fun hc=>?_,fun hc=>?_⟩⟩⟩
 all_goals simp only [LN] at hc
 ·have hl:i.1.length=x.2.length:=by rw [hi.2,zmS]
  have hm:x.2.length≤1000000000:=by
   have h1:=hp.1
   have h2:=hp.2 (by rw [hx] at hp ⊢; exact zbr hF hp.1)
   rw [hx] at h1
   have h3:=zbr hF h1
   rw [h2,hx]
   exact Nat.le_trans (List.length_filter_le _ _) h3
  have hw:w64 ((i.2:Int)+1)=((i.2+1:Nat):Int):=(jj (by omega) (by omega)).trans (by omega)
  refine ⟨by omega,fun _=>⟨by (repeat' first | assumption | trivial | apply And.intro),fun y hy=>⟨fun h2=>⟨by omega,fun _=>⟨by rw [List.length_set],fun _=>⟨hw,⟨by omega,?_⟩,by omega⟩⟩⟩,fun h2 _=>⟨hw,⟨by omega,?_⟩,by omega⟩⟩⟩⟩
  all_goals rw [hi.2,GH _ (by omega)] at hy
  all_goals simp only [LN] at h2
  ·rw [← zfz _ (by omega),hi.2,GH _ (by omega),hg _ (by omega)]
  ·rw [← zjd _ (by omega) (hn _ (by omega))]
   exact hi.2
 ·rw [hi.2,zlm _ (by omega)]
def gL (r:jg) (forum:Int) (f:jh) (day:Int):Ctr ((List Claim)):=kk tok mixed Tryz.func14 [av r.cells,iv forum,av f.cells,iv day] (fun x=>lv Claim.cells x) false (vG r forum f day) (kE r forum f day) (fun (h:(jX r f)∧(f.Small)∧(r.ByOK)∧(r.Small)∧(r.FirmOK)∧(r.RateOK))=>zdJ r forum f day h.1 h.2.1 h.2.2.1 h.2.2.2.1 h.2.2.2.2.1 h.2.2.2.2.2) (fun (x:(List Claim))=>(jX r f)→(x=((gK r forum f day).filter (Gu r forum f day)).map (zbo r forum f day))) (UZ r forum f day)
structure jF where
 r:jg
 forum:Int
 day:Int
 files:List jh
 s:jM
 deriving Inhabited
def jF.cells (c:jF):List D:=c.r.cells++[dI c.forum,dI c.day,slD jh.cells c.files]++c.s.cells
def jF.E:Enc jF:=⟨jF.cells,18,fun _=>rfl,fun _=>rfl⟩
def jF.Fine (x:jF):Prop:=(x.r.Small∧x.r.ByOK∧x.r.FirmOK∧x.r.RateOK)∧(∀ q,q < x.files.length→(x.files.getD q default).Small∧jX x.r (x.files.getD q default))∧(0≤x.s.file∧x.s.file < x.files.length)
def vo (x_:jF) (c_:Claim):Sk (Int) :=
 .r 1 (.andl (.p (ixP x_.s.file x_.files.length)) ((ju (x_.files.getD x_.s.file.toNat default) x_.day).c)) fun x1 =>
 .bind true (fun _=>True)
 (.brf <|
 .brf <|
 .fin (.inr ()))
 (fun (_:Unit)=>⟨[],[]⟩) fun _ =>
 .r 17 (.andl (.p (0≤(0:Int)∧(0:Int) < ((7:Nat):Int))) ((kd x1 0 c_.sign).c)) fun x3 =>
 .br (!x3.known)
 (.fin 2)
 (.br (x3.n == 0)
 (.fin 1)
 (.fin 0))
def yd (x_:jF) (c_:Claim):Int:=(vo x_ c_).val
theorem XC (x_:jF) (c_:Claim) (hx:x_.Fine):(vo x_ c_).obs (fun _=>True):=by
 refine Sk.obs_of _ ?_
 unfold vo
 simp only [Sk.obq,Sk.isLoop,reduceCtorEq,ON,kk,ju,kd,maxLen]
 obtain ⟨⟨h1,h2,h3,h4⟩,h5,h6⟩:=hx
 have h7:=h5 x_.s.file.toNat (by omega)
 have hx:x_.Fine:=⟨⟨h1,h2,h3,h4⟩,h5,h6⟩
 all_goals (repeat' first | exact hx | exact h7.1 | exact h7.2 | assumption | (with_reducible apply And.intro) | (intro h))
 all_goals try simp only [LN] at *
 all_goals first | trivial | assumption | omega | (rw [jj (by omega) (by omega)]; omega)
def HK (x_:jF) (c_:Claim):Ctr (Int):=kk tok mixed Tryz.func27 [av x_.cells,av c_.cells,iv 0] (fun x=>iv x) true (vo x_ c_) (yd x_ c_) (fun (h:(x_.Fine))=>XC x_ c_ h)
def vf (x_:jF) (c_:Claim):Sk (Int) :=
 .r 1 (.andl (.p (ixP x_.s.file x_.files.length)) ((ju (x_.files.getD x_.s.file.toNat default) x_.day).c)) fun x1 =>
 .bind true (fun _=>True)
 (.brf <|
 .brf <|
 .fin (.inr ()))
 (fun (_:Unit)=>⟨[],[]⟩) fun _ =>
 .r 17 (.andl (.p (0≤(1:Int)∧(1:Int) < ((7:Nat):Int))) ((kd x1 1 c_.sign).c)) fun x3 =>
 .br (!x3.known)
 (.fin 2)
 (.br (x3.n == 0)
 (.fin 1)
 (.fin 0))
def uW (x_:jF) (c_:Claim):Int:=(vf x_ c_).val
theorem XG (x_:jF) (c_:Claim) (hx:x_.Fine):(vf x_ c_).obs (fun _=>True):=by
 refine Sk.obs_of _ ?_
 unfold vf
 simp only [Sk.obq,Sk.isLoop,reduceCtorEq,ON,kk,ju,kd,maxLen]
 obtain ⟨⟨h1,h2,h3,h4⟩,h5,h6⟩:=hx
 have h7:=h5 x_.s.file.toNat (by omega)
 have hx:x_.Fine:=⟨⟨h1,h2,h3,h4⟩,h5,h6⟩
 all_goals (repeat' first | exact hx | exact h7.1 | exact h7.2 | assumption | (with_reducible apply And.intro) | (intro h))
 all_goals try simp only [LN] at *
 all_goals first | trivial | assumption | omega | (rw [jj (by omega) (by omega)]; omega)
def XP (x_:jF) (c_:Claim):Ctr (Int):=kk tok mixed Tryz.func27 [av x_.cells,av c_.cells,iv 1] (fun x=>iv x) true (vf x_ c_) (uW x_ c_) (fun (h:(x_.Fine))=>XG x_ c_ h)
def vl (x_:jF) (c_:Claim):Sk (Int) :=
 .r 1 (.andl (.p (ixP x_.s.file x_.files.length)) ((ju (x_.files.getD x_.s.file.toNat default) x_.day).c)) fun x1 =>
 .bind true (fun _=>True)
 (.brf <|
 .brf <|
 .fin (.inr ()))
 (fun (_:Unit)=>⟨[],[]⟩) fun _ =>
 .r 17 (.andl (.p (0≤(2:Int)∧(2:Int) < ((7:Nat):Int))) ((kd x1 2 c_.sign).c)) fun x3 =>
 .br (!x3.known)
 (.fin 2)
 (.br (x3.n == 0)
 (.fin 1)
 (.fin 0))
def yk (x_:jF) (c_:Claim):Int:=(vl x_ c_).val
theorem Xz (x_:jF) (c_:Claim) (hx:x_.Fine):(vl x_ c_).obs (fun _=>True):=by
 refine Sk.obs_of _ ?_
 unfold vl
 simp only [Sk.obq,Sk.isLoop,reduceCtorEq,ON,kk,ju,kd,maxLen]
 obtain ⟨⟨h1,h2,h3,h4⟩,h5,h6⟩:=hx
 have h7:=h5 x_.s.file.toNat (by omega)
 have hx:x_.Fine:=⟨⟨h1,h2,h3,h4⟩,h5,h6⟩
 all_goals (repeat' first | exact hx | exact h7.1 | exact h7.2 | assumption | (with_reducible apply And.intro) | (intro h))
 all_goals try simp only [LN] at *
 all_goals first | trivial | assumption | omega | (rw [jj (by omega) (by omega)]; omega)
def Hh (x_:jF) (c_:Claim):Ctr (Int):=kk tok mixed Tryz.func27 [av x_.cells,av c_.cells,iv 2] (fun x=>iv x) true (vl x_ c_) (yk x_ c_) (fun (h:(x_.Fine))=>Xz x_ c_ h)
def vd (x_:jF) (c_:Claim):Sk (Int) :=
 .r 1 (.andl (.p (ixP x_.s.file x_.files.length)) ((ju (x_.files.getD x_.s.file.toNat default) x_.day).c)) fun x1 =>
 .bind true (fun _=>True)
 (.brf <|
 .brf <|
 .fin (.inr ()))
 (fun (_:Unit)=>⟨[],[]⟩) fun _ =>
 .r 17 (.andl (.p (0≤(3:Int)∧(3:Int) < ((7:Nat):Int))) ((kd x1 4 c_.sign).c)) fun x3 =>
 .br (!x3.known)
 (.fin 2)
 (.br (x3.n == 0)
 (.fin 1)
 (.fin 0))
def uX (x_:jF) (c_:Claim):Int:=(vd x_ c_).val
theorem XB (x_:jF) (c_:Claim) (hx:x_.Fine):(vd x_ c_).obs (fun _=>True):=by
 refine Sk.obs_of _ ?_
 unfold vd
 simp only [Sk.obq,Sk.isLoop,reduceCtorEq,ON,kk,ju,kd,maxLen]
 obtain ⟨⟨h1,h2,h3,h4⟩,h5,h6⟩:=hx
 have h7:=h5 x_.s.file.toNat (by omega)
 have hx:x_.Fine:=⟨⟨h1,h2,h3,h4⟩,h5,h6⟩
 all_goals (repeat' first | exact hx | exact h7.1 | exact h7.2 | assumption | (with_reducible apply And.intro) | (intro h))
 all_goals try simp only [LN] at *
 all_goals first | trivial | assumption | omega | (rw [jj (by omega) (by omega)]; omega)
def XW (x_:jF) (c_:Claim):Ctr (Int):=kk tok mixed Tryz.func27 [av x_.cells,av c_.cells,iv 3] (fun x=>iv x) true (vd x_ c_) (uX x_ c_) (fun (h:(x_.Fine))=>XB x_ c_ h)
def vg (x_:jF) (c_:Claim):Sk (Int) :=
 .r 1 (.andl (.p (ixP x_.s.file x_.files.length)) ((ju (x_.files.getD x_.s.file.toNat default) x_.day).c)) fun x1 =>
 .bind true (fun _=>True)
 (.brf <|
 .brf <|
 .fin (.inr ()))
 (fun (_:Unit)=>⟨[],[]⟩) fun _ =>
 .r 17 (.andl (.p (0≤(4:Int)∧(4:Int) < ((7:Nat):Int))) ((kd x1 3 c_.sign).c)) fun x3 =>
 .br (!x3.known)
 (.fin 2)
 (.br (x3.n == 0)
 (.fin 1)
 (.fin 0))
def yt (x_:jF) (c_:Claim):Int:=(vg x_ c_).val
theorem XD (x_:jF) (c_:Claim) (hx:x_.Fine):(vg x_ c_).obs (fun _=>True):=by
 refine Sk.obs_of _ ?_
 unfold vg
 simp only [Sk.obq,Sk.isLoop,reduceCtorEq,ON,kk,ju,kd,maxLen]
 obtain ⟨⟨h1,h2,h3,h4⟩,h5,h6⟩:=hx
 have h7:=h5 x_.s.file.toNat (by omega)
 have hx:x_.Fine:=⟨⟨h1,h2,h3,h4⟩,h5,h6⟩
 all_goals (repeat' first | exact hx | exact h7.1 | exact h7.2 | assumption | (with_reducible apply And.intro) | (intro h))
 all_goals try simp only [LN] at *
 all_goals first | trivial | assumption | omega | (rw [jj (by omega) (by omega)]; omega)
def Hi (x_:jF) (c_:Claim):Ctr (Int):=kk tok mixed Tryz.func27 [av x_.cells,av c_.cells,iv 4] (fun x=>iv x) true (vg x_ c_) (yt x_ c_) (fun (h:(x_.Fine))=>XD x_ c_ h)
def vh (x_:jF) (c_:Claim):Sk (Int) :=
 .r 1 (.andl (.p (ixP x_.s.file x_.files.length)) ((ju (x_.files.getD x_.s.file.toNat default) x_.day).c)) fun x1 =>
 .brt <|
 .bind true (fun _=>True)
 (.loop (default:Sum (Int) (Int)) (fun i3=>i3.2≤x1.acts.length) (fun i3=>x1.acts.length - i3.2) ((0,0):Int × Nat)
 (fun (i3:Int × Nat)=>⟨[(8,iv i3.1),(29,iv (i3.2:Int))],[]⟩) fun i3 =>
 .bnd 27 0 x1.acts.length <|
 .br (decide ((i3.2:Int) < ((x1.acts.length:Nat):Int)))
 (.r 7 (.p (ixP (i3.2:Int) x1.acts.length)) fun _ =>
 .br (((((x1.acts.getD i3.2 default).kind) == 6)&&(((x1.acts.getD i3.2 default).who) == x_.s.defendant))&&(((x1.acts.getD i3.2 default).to_) != x_.s.plaintiff))
 (.r 10 .z fun _ =>
 .wi 29 (w64 ((i3.2:Int)+1)) ((i3.2+1:Nat):Int) <|
 .fin (.inr (w64 (i3.1+((x1.acts.getD i3.2 default).sum)),i3.2+1)))
 (.r 10 .z fun _ =>
 .wi 29 (w64 ((i3.2:Int)+1)) ((i3.2+1:Nat):Int) <|
 .fin (.inr (i3.1,i3.2+1))))
 (.fin (.inl (.inr i3.1))))
 (fun (b2:Int)=>⟨[(8,iv b2)],[]⟩) fun b2 =>
 .br (decide (b2≥c_.sum))
 (.fin 1)
 (.fin 0)
def yh (x_:jF) (c_:Claim):Int:=(vh x_ c_).val
theorem Xw (x_:jF) (c_:Claim) (hx:x_.Fine):(vh x_ c_).obs (fun _=>True):=by
 refine Sk.obs_of _ ?_
 unfold vh
 simp only [Sk.obq,Sk.isLoop,reduceCtorEq,ON,kk,ju,maxLen]
 obtain ⟨⟨h1,h2,h3,h4⟩,h5,h6⟩:=hx
 have h7:=h5 x_.s.file.toNat (by omega)
 have hx:x_.Fine:=⟨⟨h1,h2,h3,h4⟩,h5,h6⟩
 all_goals (repeat' first | exact hx | exact h7.1 | exact h7.2 | assumption | (with_reducible apply And.intro) | (intro h))
 all_goals try simp only [LN] at *
 all_goals first | trivial | assumption | omega | (rw [jj (by omega) (by omega)]; omega)
def XT (x_:jF) (c_:Claim):Ctr (Int):=kk tok mixed Tryz.func27 [av x_.cells,av c_.cells,iv 5] (fun x=>iv x) true (vh x_ c_) (yh x_ c_) (fun (h:(x_.Fine))=>Xw x_ c_ h)
def gm (x_:jF) (question:Int) (c_:Claim) (defence:Int):Sk (Int) :=
 .r 1 (.p (ixP x_.s.file x_.files.length)) fun _ =>
 .r 2 ((jS x_.r x_.forum (x_.files.getD x_.s.file.toNat default) x_.day).c) fun x1 =>
 .r 3 (.dep ((qN x_.r x_.forum question ({ file:=x_.files.getD x_.s.file.toNat default,sign:=c_.sign,holder:=c_.by_,defence:=defence,due:=x1,day:=x_.day }:ke)).c) fun x2=>(qK x2).c) fun p4 =>
 .fin p4.2
def zZ (x_:jF) (question:Int) (c_:Claim) (defence:Int):Int:=(gm x_ question c_ defence).val
theorem zaH (x_:jF) (question:Int) (c_:Claim) (defence:Int) (hx:x_.Fine):(gm x_ question c_ defence).obs (fun _=>True):=by
 refine Sk.obs_of _ ?_
 unfold gm
 simp only [Sk.obq,Sk.isLoop,reduceCtorEq,ON,kk,qN,jS,qK,maxLen]
 obtain ⟨⟨h1,h2,h3,h4⟩,h5,h6⟩:=hx
 have h7:=h5 x_.s.file.toNat (by omega)
 have hx:x_.Fine:=⟨⟨h1,h2,h3,h4⟩,h5,h6⟩
 all_goals (repeat' first | exact hx | exact h7.1 | exact h7.2 | assumption | (with_reducible apply And.intro) | (intro h))
 all_goals try simp only [LN] at *
 all_goals first | trivial | assumption | omega | (rw [jj (by omega) (by omega)]; omega)
def uM (x_:jF) (question:Int) (c_:Claim) (defence:Int):Ctr (Int):=kk tok mixed Tryz.func28 [av x_.cells,iv question,av c_.cells,iv defence] (fun x=>iv x) true (gm x_ question c_ defence) (zZ x_ question c_ defence) (fun (h:(x_.Fine))=>zaH x_ question c_ defence h)
def vi (x_:jF) (c_:Claim):Sk (Int) :=
 .bind true (fun _=>True)
 (.loop (default:Sum (Int) (Int × Int)) (fun i2=>i2.2.2≤x_.files.length) (fun i2=>x_.files.length - i2.2.2) ((0,0,0):Int × Int × Nat)
 (fun (i2:Int × Int × Nat)=>⟨[(5,iv i2.1),(6,iv i2.2.1),(14,iv (i2.2.2:Int))],[]⟩) fun i2 =>
 .bnd 12 0 x_.files.length <|
 .br (decide ((i2.2.2:Int) < ((x_.files.length:Nat):Int)))
 (.bind true (fun _=>True)
 (.r 4 (.p (ixP (i2.2.2:Int) x_.files.length)) fun _ =>
 .r 5 ((gL x_.r x_.forum (x_.files.getD i2.2.2 default) x_.day).c) fun x4 =>
 .bind true (fun _=>True)
 (.loop (default:Sum (Sum (Sum (Sum (Int) (Int × Int)) (Int × Int × Nat)) (Int × Int)) (Int × Int × Int)) (fun i6=>i6.2.2≤x4.length) (fun i6=>x4.length - i6.2.2) ((i2.1,i2.2.1,0):Int × Int × Nat)
 (fun (i6:Int × Int × Nat)=>⟨[(5,iv i6.1),(6,iv i6.2.1),(27,iv (i6.2.2:Int))],[]⟩) fun i6 =>
 .bnd 25 0 x4.length <|
 .br (decide ((i6.2.2:Int) < ((x4.length:Nat):Int)))
 (.r 7 (.p (ixP (i6.2.2:Int) x4.length)) fun _ =>
 .br (((((x4.getD i6.2.2 default).debtor) != c_.creditor)||(((x4.getD i6.2.2 default).creditor) != c_.debtor))||(((x4.getD i6.2.2 default).currency) != c_.currency))
 (.r 12 .z fun _ =>
 .wi 27 (w64 ((i6.2.2:Int)+1)) ((i6.2.2+1:Nat):Int) <|
 .fin (.inr (i6.1,i6.2.1,i6.2.2+1)))
 (.br (((x4.getD i6.2.2 default).state) == 1)
 (.r 12 .z fun _ =>
 .wi 27 (w64 ((i6.2.2:Int)+1)) ((i6.2.2+1:Nat):Int) <|
 .fin (.inr (w64 (i6.1+((x4.getD i6.2.2 default).sum)),w64 (i6.2.1+((x4.getD i6.2.2 default).sum)),i6.2.2+1)))
 (.r 12 .z fun _ =>
 .wi 27 (w64 ((i6.2.2:Int)+1)) ((i6.2.2+1:Nat):Int) <|
 .fin (.inr (i6.1,w64 (i6.2.1+((x4.getD i6.2.2 default).sum)),i6.2.2+1)))))
 (.fin (.inl (.inr (i6.1,i6.2.1,(i6.2.2:Int))))))
 (fun (b5:Int × Int × Int)=>⟨[(5,iv b5.1),(6,iv b5.2.1),(27,iv b5.2.2)],[]⟩) fun b5 =>
 .fin (.inr (b5.1,b5.2.1)))
 (fun (b3:Int × Int)=>⟨[(5,iv b3.1),(6,iv b3.2)],[]⟩) fun b3 =>
 .r 13 .z fun _ =>
 .wi 14 (w64 ((i2.2.2:Int)+1)) ((i2.2.2+1:Nat):Int) <|
 .fin (.inr (b3.1,b3.2,i2.2.2+1)))
 (.fin (.inl (.inr (i2.1,i2.2.1)))))
 (fun (b1:Int × Int)=>⟨[(5,iv b1.1),(6,iv b1.2)],[]⟩) fun b1 =>
 .br (decide (b1.1≥c_.sum))
 (.fin 1)
 (.br (decide (b1.2 < c_.sum))
 (.fin 0)
 (.fin 2))
def ye (x_:jF) (c_:Claim):Int:=(vi x_ c_).val
theorem XF (x_:jF) (c_:Claim) (hx:x_.Fine):(vi x_ c_).obs (fun _=>True):=by
 refine Sk.obs_of _ ?_
 unfold vi
 simp only [Sk.obq,Sk.isLoop,reduceCtorEq,ON,kk,gL,maxLen]
 obtain ⟨⟨h1,h2,h3,h4⟩,h5,h6⟩:=hx
 have wi:∀ n m:Nat,n < m→m≤9223372036854775807→w64 ((n:Int)+1)=((n+1:Nat):Int):=fun n m h h0=>by rw [jj (by omega) (by omega)]; omega
 simp only [LN]
 refine ⟨Nat.zero_le _,fun i hi hm hc=>⟨⟨⟨by omega,by omega⟩,fun _=>⟨⟨(h5 _ (by omega)).2,(h5 _ (by omega)).1,h2,h1,h3,h4⟩,fun l _ _=>⟨Nat.zero_le _,fun j hj hl hd=>⟨⟨by omega,by omega⟩,fun _=>⟨fun _ _=>⟨wi _ _ (by omega) hl,by omega,by omega⟩,fun _=>⟨fun _ _=>⟨wi _ _ (by omega) hl,by omega,by omega⟩,fun _ _=>⟨wi _ _ (by omega) hl,by omega,by omega⟩⟩⟩⟩⟩⟩⟩,fun b _ _=>⟨wi _ _ (by omega) hm,by omega,by omega⟩⟩⟩
def Zy (x_:jF) (c_:Claim):Ctr (Int):=kk tok mixed Tryz.func47 [av x_.cells,av c_.cells] (fun x=>iv x) true (vi x_ c_) (ye x_ c_) (fun (h:(x_.Fine))=>XF x_ c_ h)
def vn (x_:jF) (c_:Claim):Sk (Int) :=
 .r 1 (.andl (.p (ixP x_.s.file x_.files.length)) ((ju (x_.files.getD x_.s.file.toNat default) x_.day).c)) fun _ =>
 .brf <|
 .brt <|
 .r 15 (.dep ((uM x_ 18 c_ 6).c) fun x2=>.dep ((Zy x_ c_).c) fun x3=>(zA x2 x3).c) fun p5 =>
 .fin p5.2.2
def vc (x_:jF) (c_:Claim):Int:=(vn x_ c_).val
theorem XH (x_:jF) (c_:Claim) (hx:x_.Fine):(vn x_ c_).obs (fun _=>True):=by
 refine Sk.obs_of _ ?_
 unfold vn
 simp only [Sk.obq,Sk.isLoop,reduceCtorEq,ON,kk,zA,ju,uM,Zy,maxLen]
 obtain ⟨⟨h1,h2,h3,h4⟩,h5,h6⟩:=hx
 have h7:=h5 x_.s.file.toNat (by omega)
 have hx:x_.Fine:=⟨⟨h1,h2,h3,h4⟩,h5,h6⟩
 all_goals (repeat' first | exact hx | exact h7.1 | exact h7.2 | assumption | (with_reducible apply And.intro) | (intro h))
 all_goals try simp only [LN] at *
 all_goals first | trivial | assumption | omega | (rw [jj (by omega) (by omega)]; omega)
def HC (x_:jF) (c_:Claim):Ctr (Int):=kk tok mixed Tryz.func27 [av x_.cells,av c_.cells,iv 6] (fun x=>iv x) true (vn x_ c_) (vc x_ c_) (fun (h:(x_.Fine))=>XH x_ c_ h)
def qQ (x_:jF) (c_:Claim) (defence:Int):Int:=match defence.toNat with
 | 0=>yd x_ c_
 | 1=>uW x_ c_
 | 2=>yk x_ c_
 | 3=>uX x_ c_
 | 4=>yt x_ c_
 | 5=>yh x_ c_
 | _=>vc x_ c_
theorem zab (x_:jF) (c_:Claim) (defence:Int) (h:0≤defence∧defence < 7∧x_.Fine):FnA Tryz.prog 27 [av x_.cells,av c_.cells,iv defence] [] (iv (qQ x_ c_ defence)) []:=by
 have hk:defence=0∨defence=1∨defence=2∨defence=3∨defence=4∨defence=5∨defence=6:=by omega
 rcases hk with rfl | rfl | rfl | rfl | rfl | rfl | rfl
 ·exact (HK x_ c_).pf h.2.2
 ·exact (XP x_ c_).pf h.2.2
 ·exact (Hh x_ c_).pf h.2.2
 ·exact (XW x_ c_).pf h.2.2
 ·exact (Hi x_ c_).pf h.2.2
 ·exact (XT x_ c_).pf h.2.2
 ·exact (HC x_ c_).pf h.2.2
def Qo (x_:jF) (c_:Claim) (defence:Int):Ctr (Int):=⟨Tryz.prog,27,[av x_.cells,av c_.cells,iv defence],fun x=>iv x,true,qQ x_ c_ defence,0≤defence∧defence < 7∧x_.Fine,fun h=>zab x_ c_ defence h,fun _=>True,trivial⟩
def Yd (x_:Int):Sk (Int) :=
 .br (x_ == 0)
 (.fin 1)
 (.br (x_ == 1)
 (.fin 0)
 (.fin 2))
def Up (x_:Int):Int:=(Yd x_).val
theorem zmZ (x_:Int):(Yd x_).obs (fun _=>True):=by
 unfold Yd
 exact okE
def Ww (x_:Int):Ctr (Int):=kk tok mixed Tryz.func26 [iv x_] (fun x=>iv x) true (Yd x_) (Up x_) (fun (_:True)=>zmZ x_)
end
end Go.Proofs.YtilbddpghnnmhaaGreatDoor
