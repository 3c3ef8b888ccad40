/- A function by hand. -/
import Derived.Test.YtgmnlkccjlnnbaaGreatDoorLh
import Derived.Shelf.SlSortCmp.WholeK
import Derived.Shelf.SlSortCmp.NoneTotal
import Derived.Ground.SlsfProg
import Derived.Test.YtgmnlkccjlnnbaaGreatDoorLd
import Derived.Test.YtgmnlkccjlnnbaaGreatDoorLc
set_option linter.unusedSimpArgs false
set_option linter.unusedVariables false
set_option maxHeartbeats 1000000
set_option maxRecDepth 100000
namespace Go.Proofs.YtgmnlkccjlnnbaaGreatDoor
noncomputable section
open Go Go.Av Go.Shelf Go.Proofs
def Tryz.Jn:Go.Shelf.Ren:=⟨fun | 6=>21 | 15=>51 | 14=>50 | 28=>95 | 29=>96 | 20=>87 | 21=>88 | 22=>89 | 23=>90 | 24=>91 | 25=>92 | 26=>93 | 27=>94 | 46=>131 | 47=>132 | 48=>133 | 49=>134 | 50=>135 | 57=>168 | n=>n,fun | 22=>52 | 24=>55 | 25=>79 | 3=>3 | 39=>124 | 0=>0 | 53=>195 | 55=>197 | 4=>4 | 46=>188 | 45=>187 | 50=>192 | 5=>5 | 9=>9 | 66=>236 | 70=>240 | 76=>275 | 77=>97 | n=>n,fun | n=>n⟩
theorem Tryz.KC:Go.Proofs.SlLaysF0.n6 Tryz.prog Tryz.Jn:={
  mixed:=by kernel_rfl
  f6:=⟨Tryz.f21.name,by decide,Tryz.func21.trans (congrArg some (by kernel_rfl))⟩
  f14:=⟨Tryz.f50.name,by decide,Tryz.func50.trans (congrArg some (by kernel_rfl))⟩
  f15:=Tryz.func51.trans (congrArg some (by kernel_rfl))
  f20:=⟨Tryz.f87.name,by decide,Tryz.func87.trans (congrArg some (by kernel_rfl))⟩
  f21:=⟨Tryz.f88.name,by decide,Tryz.func88.trans (congrArg some (by kernel_rfl))⟩
  f22:=⟨Tryz.f89.name,by decide,Tryz.func89.trans (congrArg some (by kernel_rfl))⟩
  f23:=⟨Tryz.f90.name,by decide,Tryz.func90.trans (congrArg some (by kernel_rfl))⟩
  f24:=⟨Tryz.f91.name,by decide,Tryz.func91.trans (congrArg some (by kernel_rfl))⟩
  f25:=⟨Tryz.f92.name,by decide,Tryz.func92.trans (congrArg some (by kernel_rfl))⟩
  f26:=⟨Tryz.f93.name,by decide,Tryz.func93.trans (congrArg some (by kernel_rfl))⟩
  f27:=⟨Tryz.f94.name,by decide,Tryz.func94.trans (congrArg some (by kernel_rfl))⟩
  f28:=Tryz.func95.trans (congrArg some (by kernel_rfl))
  f29:=Tryz.func96.trans (congrArg some (by kernel_rfl))
  f46:=⟨Tryz.f131.name,by decide,Tryz.func131.trans (congrArg some (by kernel_rfl))⟩
  f47:=Tryz.func132.trans (congrArg some (by kernel_rfl))
  f48:=Tryz.func133.trans (congrArg some (by kernel_rfl))
  f49:=⟨Tryz.f134.name,by decide,Tryz.func134.trans (congrArg some (by kernel_rfl))⟩
  f50:=⟨Tryz.f135.name,by decide,Tryz.func135.trans (congrArg some (by kernel_rfl))⟩
  f57:=⟨Tryz.f168.name,by decide,Tryz.func168.trans (congrArg some (by kernel_rfl))⟩
  t0:=Tryz.underlying0
  a0:=Tryz.isAgg0
  z0:=Tryz.sizeOf0
  v0:=Tryz.zeroValue0
  t3:=Tryz.underlying3
  a3:=Tryz.isAgg3
  z3:=Tryz.sizeOf3
  v3:=Tryz.zeroValue3
  t4:=Tryz.underlying4
  a4:=Tryz.isAgg4
  z4:=Tryz.sizeOf4
  v4:=Tryz.zeroValue4
  t5:=Tryz.underlying5
  a5:=Tryz.isAgg5
  z5:=Tryz.sizeOf5
  v5:=Tryz.zeroValue5
  t9:=Tryz.underlying9
  a9:=Tryz.isAgg9
  z9:=Tryz.sizeOf9
  v9:=Tryz.zeroValue9
  t22:=Tryz.underlying52
  a22:=Tryz.isAgg52
  z22:=Tryz.sizeOf52
  v22:=Tryz.zeroValue52
  t25:=Tryz.underlying79
  a25:=Tryz.isAgg79
  z25:=Tryz.sizeOf79
  v25:=Tryz.zeroValue79
  t39:=Tryz.underlying124
  a39:=Tryz.isAgg124
  z39:=Tryz.sizeOf124
  v39:=Tryz.zeroValue124
  t45:=Tryz.underlying187
  a45:=Tryz.isAgg187
  z45:=Tryz.sizeOf187
  v45:=Tryz.zeroValue187
  t46:=Tryz.underlying188
  a46:=Tryz.isAgg188
  z46:=Tryz.sizeOf188
  v46:=Tryz.zeroValue188
  t50:=Tryz.underlying192
  a50:=Tryz.isAgg192
  z50:=Tryz.sizeOf192
  v50:=Tryz.zeroValue192
  t53:=Tryz.underlying195
  a53:=Tryz.isAgg195
  z53:=Tryz.sizeOf195
  v53:=Tryz.zeroValue195
  t55:=Tryz.underlying197
  a55:=Tryz.isAgg197
  z55:=Tryz.sizeOf197
  v55:=Tryz.zeroValue197
  t66:=Tryz.underlying236
  a66:=Tryz.isAgg236
  z66:=Tryz.sizeOf236
  v66:=Tryz.zeroValue236
  t70:=Tryz.underlying240
  a70:=Tryz.isAgg240
  z70:=Tryz.sizeOf240
  v70:=Tryz.zeroValue240
  t76:=Tryz.underlying275
  a76:=Tryz.isAgg275
  z76:=Tryz.sizeOf275
  v76:=Tryz.zeroValue275
  t77:=Tryz.underlying97
  a77:=Tryz.isAgg97
  z77:=Tryz.sizeOf97
  v77:=Tryz.zeroValue97 }
theorem XN:∃ i,Go.Av.look TT 55=some i∧zG i.kind=true∧i.size=4:=⟨_,rfl,rfl,rfl⟩
theorem Zb (w:World):(isAgg 55).run Tryz.prog w=.ok true w:=by
  obtain ⟨i,h1,h2,-⟩:=XN
  rw [← h2]
  exact (UJ tok h1 w).1
theorem WZ (w:World):(Go.sizeOf 55).run Tryz.prog w=.ok 4 w:=by
  obtain ⟨i,h1,-,h2⟩:=XN
  rw [← h2]
  exact (UJ tok h1 w).2
/-- a abl adE af is no RC number -/
def aA.QD (s:aA):Prop:=-1000000≤s.af∧s.af≤1000000
abbrev Dq:Type:={s:aA // s.QD}
instance:Inhabited Dq:=⟨⟨default,by constructor <;> decide⟩⟩
def tc (x y:Dq):Int:=x.1.af - y.1.af
theorem W6 (x y:Dq):Go.Proofs.ltOf tc x y=decide (x.1.af < y.1.af):=by
  unfold Go.Proofs.ltOf tc
  rw [decide_eq_decide]
  omega
theorem yH:Go.Sort.SWO (Go.Proofs.ltOf tc) where
  irrefl x:=by rw [W6]; simp
  trans x y z h1 h2:=by rw [W6] at *; simp only [decide_eq_true_eq] at *; omega
  ntrans x y z h1 h2:=by rw [W6] at *; simp only [decide_eq_false_iff_not] at *; omega
def Dr (s:aA):Dq:=open Classical in if h:s.QD then ⟨s,h⟩ else default
theorem OT {l:List aA} (h:∀ s,s∈l→s.QD):(l.map Dr).map (·.1)=l:=by
  rw [List.map_map]
  conv=>rhs; rw [← List.map_id l]
  refine List.map_congr_left (fun s hs=>?_)
  show (Dr s).1=s
  unfold Dr
  rw [dif_pos (h s hs)]
def tQ (l:List aA):List aA:=(rz tc (l.map Dr)).map (·.1)
theorem OU {l:List aA} (h:∀ s,s∈l→s.QD):(tQ l).Perm l:=by
  have:=(PU tc yH (l.map Dr)).map (·.1)
  rwa [OT h] at this
theorem Jo (l:List aA):∀ i j,i < j→j < (tQ l).length→((tQ l).getD i default).af≤((tQ l).getD j default).af:=by
  intro i j hij hj
  have hl:(tQ l).length=(rz tc (l.map Dr)).length:=by simp [tQ]
  have h:=K8 tc yH (l.map Dr) i j hij (by omega)
  rw [W6] at h
  simp only [decide_eq_false_iff_not] at h
  have e:∀ q,q < (rz tc (l.map Dr)).length→(tQ l).getD q default=((rz tc (l.map Dr)).getD q default).1:=fun q hq=>by simp [tQ,List.getD,hq]
  rw [e i (by omega),e j (by omega)]
  omega
/-- Ca abm two Dp,in abn world -/
theorem Zc (x y:Dq) (W:World):Calls Tryz.prog 22 (#[.agg (Go.Av.encS (fun s:Dq=>s.1.cells) x).toArray,.agg (Go.Av.encS (fun s:Dq=>s.1.cells) y).toArray]++#[]) W fun e w'=>e=.returned (.int .i64 (tc x y))∧∃ q os',w'=Go.Sort.grow (W.drewN q) os':=by
  have hw:Go.RowKit.wrap64 (x.1.af - y.1.af)=tc x y:=by
    have hx:=x.2
    have hy:=y.2
    unfold aA.QD at hx hy
    show Go.RowKit.wrap64 (x.1.af - y.1.af)=x.1.af - y.1.af
    unfold Go.RowKit.wrap64
    omega
  show Calls Tryz.prog 22 #[.agg #[.int .i64 x.1.af,.int .i64 x.1.place,.int .i64 x.1.fX,.int .i64 x.1.rest],.agg #[.int .i64 y.1.af,.int .i64 y.1.place,.int .i64 y.1.fX,.int .i64 y.1.rest]] W _
  go_enter Tryz.func22,Tryz.ntmps22
  go_wp2
  go_ret
  refine ⟨?_,0,_,by rw [Go.Sort.alloc_eq_grow,Go.Sort.alloc_eq_grow,Go.Sort.grow_grow]; rfl⟩
  show Ending.returned (.int .i64 (Go.RowKit.wrap64 (x.1.af - y.1.af)))=_
  rw [hw]
/-- bw.abo of an own row of Dp -/
def nQ (κ:Nat) (x:List aA):zV (List aA) :=
  ⟨Tryz.prog,21,[ow κ x,.fn 22 []],κ,bg 55 4 aA.cells x,fun y=>bg 55 4 aA.cells y,tQ x,x.length < 4611686018427387904∧∀ s,s∈x→s.QD,
    fun h=>by
      have e:=OT h.2
      have hf:=Sq (P:=Tryz.prog) (f:=21) (gf:=22) (by kernel_rfl) (fun s:Dq=>s.1.cells) 4 (fun _=>rfl) (fun _=>rfl) tc yH
        (fun g n w _ _ _ _ a b=>Zc a b _)
        (fun blk off cap d w uV hH hb hs=>AnyQ.slices_SortFunc_eq Tryz.KC 4 Zb WZ (Go.Av.encS fun s:Dq=>s.1.cells) (fun _=>rfl)
          (fun x v hv=>by
            simp only [Go.Av.encS,aA.cells,List.map_cons,List.map_nil,List.mem_cons,List.not_mem_nil,or_false] at hv
            rcases hv with rfl | rfl | rfl | rfl <;> rfl) tc yH 22 #[] blk off cap d w (fun args w=>vc (by kernel_rfl) args) uV hH hb hs)
        (fun p cap w=>AnyF.slices_SortFunc_none Tryz.KC p cap _ w) κ 55 (x.map Dr) (by simpa using h.1)
      have e1:bg 55 4 (fun s:Dq=>s.1.cells) (x.map Dr)=bg 55 4 aA.cells x:=by rw [Ny _ _ aA.cells (fun s:Dq=>s.1) rfl,e]
      have e2:bg 55 4 (fun s:Dq=>s.1.cells) (rz tc (x.map Dr))=bg 55 4 aA.cells (tQ x):=Ny _ _ aA.cells (fun s:Dq=>s.1) rfl _
      have e3:ow κ (x.map Dr)=ow κ x:=by show AV.own κ _=AV.own κ _; rw [List.length_map]
      rw [e1,e2,e3] at hf
      exact hf,
    fun y=>(∀ s,s∈x→s.QD)→y.Perm x∧∀ i j,i < j→j < y.length→(y.getD i default).af≤(y.getD j default).af,fun h=>⟨OU h,Jo x⟩⟩
section
open Go Go.Av
structure HT (r:ai) (forum:Int) (f:ar) (day:Int) (c:Claim):Prop where
 forum:0≤forum∧forum < (r.aC.length:Int)
 sign:0≤c.sign∧c.sign < ((aB f day).ah.length:Int)
 dY:((aB f day).ah.getD c.sign.toNat default).dY=c.aR
 cur:c.aE=f.aH.aE
 abp:c.af = -1∨(0≤c.af∧c.af < (r.aQ.length:Int))
 ne:c.af≠c.aR
theorem QE {r:ai} {forum:Int} {f:ar} {day:Int} (hF:bX r f) (hR:r.c9) (hT:YK r f):∀ c∈dt r forum f day,HT r forum f day c:=by
 intro c h
 have hc:=DZ hF hR h
 have hfo:0≤forum∧forum < (r.aC.length:Int):=by
  cases ht:(aV r forum f day).2 with
  | true=>exact (vB r forum f day ht).2
  | false=>rw [Dm,ht,Bool.not_false,cond_true] at h; cases h
 obtain ⟨he,part,o,sign,k⟩:=DY h
 have hl:=Hu k.li
 have hm:=Ht hl.2
 rw [B2] at hm
 have heq:=k.eq
 obtain ⟨-,VC,-,vX,qW,-,-,hcu⟩:=hc
 refine ⟨hfo,?_,?_,hcu,?_,fun e=>qW e.symm⟩
 ·rw [heq]; exact ⟨hm.1,hm.2.1⟩
 ·rw [heq]
 ·rw [vX]
  by_cases h0:0≤c.cj
  ·rw [if_pos h0]
   exact hT.2 c.cj.toNat (by omega)
  ·rw [if_neg h0]
   exact hT.1
theorem OV {r:ai} {forum:Int} {f:ar} {day:Int} {x y:Claim} (h:wy x y) (k:HT r forum f day y):HT r forum f day x:=by
 obtain ⟨⟨h1,h2,h3,h4,h5⟩,h6,h7⟩:=h
 exact ⟨k.forum,by rw [h4]; exact k.sign,by rw [h4,h1]; exact k.dY,by rw [h7]; exact k.cur,by rw [h2]; exact k.abp,by rw [h1,h2]; exact k.ne⟩
theorem OW {r:ai} {forum:Int} {f:ar} {day:Int} (hF:bX r f) {l0 l:List Claim} {k:Nat} (h:AA (aB f day) l0 k l) (h0:∀ c∈l0,HT r forum f day c):∀ c∈l,HT r forum f day c:=by
 induction h with
 | zero=>exact h0
 | skip _ _ _ ih=>exact ih
 | @B8 k l out st _ hk hp _ ha ih =>
  intro c hc
  obtain ⟨i,hi,rfl⟩:=List.getElem_of_mem hc
  have e:out[i]=out.getD i default:=by simp [List.getD,hi]
  rw [e]
  by_cases h1:i < l.length
  ·exact OV (ha.old i h1).1 (ih _ (dM h1))
  ·obtain ⟨e1,e2,e3,x,hx,x1,x2,x3,x4⟩:=ha.new i (by omega) hi
   have q:=ih x hx
   have adl:0≤((aB f day).au.getD k default).dY∧((aB f day).au.getD k default).dY < (r.aQ.length:Int):=by
    obtain ⟨a1,a2,a3⟩:=OG f day hk
    rw [a1] at hp ⊢
    obtain ⟨d1,d2,d3⟩:=(hF.2.2.2.2 k a2).2.2.2 hp.1
    rw [← d3]
    exact (hF.2.2.1 _ (by omega)).1
   refine ⟨q.forum,by rw [← x3]; exact q.sign,by rw [← x3,← x1]; exact q.dY,by rw [← x4]; exact q.cur,.inr (by rw [e1]; exact adl),fun e=>e3 (by rw [← e,e1])⟩
theorem RJ {r:ai} {forum:Int} {f:ar} {day:Int} (hr:r.aQ.length≤1000000) (hF:bX r f) (hR:r.c9) (hT:YK r f):CrB (nP r forum f day).1:=by
 have h:=OW (forum:=forum) hF (vS r forum f day).1 (QE hF hR hT)
 intro x hx
 have:=(h x hx).abp
 omega
def iX (r:ai) (forum:Int) (f:ar) (day:Int):Sk ((List aA)) :=
 .r 1 ((oM r forum f day).c) fun x1 =>
 .bind true (fun b2=>qn x1.1 x1.2 x1.1.length b2∧b2.length≤x1.1.length)
 (.loop (default:Sum ((List aA)) ((List aA))) (fun i3=>i3.2≤x1.1.length∧qn x1.1 x1.2 i3.2 i3.1∧i3.1.length≤i3.2) (fun i3=>x1.1.length - i3.2) (([],0):(List aA) × Nat)
 (fun (i3:(List aA) × Nat)=>⟨[(11,ow 100002 i3.1),(25,iv (i3.2:Int))],[(100002,bg 55 4 aA.cells i3.1)]⟩) fun i3 =>
 .lt 23 0 i3.2 x1.1.length
 (.r 5 (.al (.p (bA (i3.2:Int) x1.1.length)) (.p (i3.2 < x1.1.length))) fun _ =>
 .r 6 ((jO i3.1 (x1.1.getD i3.2 default)).c) fun x4 =>
 .br (decide (x4 < 0))
 (.oq 777778 (Fh x1.2) fun m5 =>
 .r 9 (.al (.al (.t (A8 dI m5)) (.o [.cast 44 (getM dI m5 ((x1.1.getD i3.2 default).af) (0:Int))])) (.al (.o [.fc (fQ aA.E [({ af:=(x1.1.getD i3.2 default).af,place:=(x1.1.getD i3.2 default).cj,fX:=gp m5 ((x1.1.getD i3.2 default).af) (0:Int),rest:=0 }:aA)])]) (.al (.o [.fc (mV aA.E i3.1 [({ af:=(x1.1.getD i3.2 default).af,place:=(x1.1.getD i3.2 default).cj,fX:=gp m5 ((x1.1.getD i3.2 default).af) (0:Int),rest:=0 }:aA)])]) (.al (.t (aA.E.pB [({ af:=(x1.1.getD i3.2 default).af,place:=(x1.1.getD i3.2 default).cj,fX:=gp m5 ((x1.1.getD i3.2 default).af) (0:Int),rest:=0 }:aA)])) (.p (yw i3.1.length [({ af:=(x1.1.getD i3.2 default).af,place:=(x1.1.getD i3.2 default).cj,fX:=gp m5 ((x1.1.getD i3.2 default).af) (0:Int),rest:=0 }:aA)].length 32)))))) fun _ =>
 .cq 777778 m5 (Fh x1.2) <|
 .r 10 (.al (.p (bA ((i3.1.length:Nat):Int) ((i3.1++[({ af:=(x1.1.getD i3.2 default).af,place:=(x1.1.getD i3.2 default).cj,fX:=gp m5 ((x1.1.getD i3.2 default).af) (0:Int),rest:=0 }:aA)]).length))) (.al (.p (i3.1.length < (i3.1++[({ af:=(x1.1.getD i3.2 default).af,place:=(x1.1.getD i3.2 default).cj,fX:=gp m5 ((x1.1.getD i3.2 default).af) (0:Int),rest:=0 }:aA)]).length)) (.al (.p (bA ((i3.1.length:Nat):Int) ((i3.1++[({ af:=(x1.1.getD i3.2 default).af,place:=(x1.1.getD i3.2 default).cj,fX:=gp m5 ((x1.1.getD i3.2 default).af) (0:Int),rest:=0 }:aA)]).length))) (.al (.o [.fc (sr aA.E (i3.1++[({ af:=(x1.1.getD i3.2 default).af,place:=(x1.1.getD i3.2 default).cj,fX:=gp m5 ((x1.1.getD i3.2 default).af) (0:Int),rest:=0 }:aA)]) i3.1.length ({ (i3.1++[({ af:=(x1.1.getD i3.2 default).af,place:=(x1.1.getD i3.2 default).cj,fX:=gp m5 ((x1.1.getD i3.2 default).af) (0:Int),rest:=0 }:aA)]).getD i3.1.length default with rest:=bL (((i3.1++[({ af:=(x1.1.getD i3.2 default).af,place:=(x1.1.getD i3.2 default).cj,fX:=gp m5 ((x1.1.getD i3.2 default).af) (0:Int),rest:=0 }:aA)]).getD i3.1.length default).rest) ((x1.1.getD i3.2 default).sum) }))]) (.p (i3.1.length < (i3.1++[({ af:=(x1.1.getD i3.2 default).af,place:=(x1.1.getD i3.2 default).cj,fX:=gp m5 ((x1.1.getD i3.2 default).af) (0:Int),rest:=0 }:aA)]).length)))))) fun _ =>
 .wn 47 (i3.1++[({ af:=(x1.1.getD i3.2 default).af,place:=(x1.1.getD i3.2 default).cj,fX:=gp m5 ((x1.1.getD i3.2 default).af) (0:Int),rest:=0 }:aA)]).length ((i3.1++[({ af:=(x1.1.getD i3.2 default).af,place:=(x1.1.getD i3.2 default).cj,fX:=gp m5 ((x1.1.getD i3.2 default).af) (0:Int),rest:=0 }:aA)]).set i3.1.length ({ (i3.1++[({ af:=(x1.1.getD i3.2 default).af,place:=(x1.1.getD i3.2 default).cj,fX:=gp m5 ((x1.1.getD i3.2 default).af) (0:Int),rest:=0 }:aA)]).getD i3.1.length default with rest:=bL (((i3.1++[({ af:=(x1.1.getD i3.2 default).af,place:=(x1.1.getD i3.2 default).cj,fX:=gp m5 ((x1.1.getD i3.2 default).af) (0:Int),rest:=0 }:aA)]).getD i3.1.length default).rest) ((x1.1.getD i3.2 default).sum) })).length <|
 .r 11 .z fun _ =>
 .wi 25 (aq ((i3.2:Int)+1)) ((i3.2+1:Nat):Int) <|
 .fin (.inr ((i3.1++[({ af:=(x1.1.getD i3.2 default).af,place:=(x1.1.getD i3.2 default).cj,fX:=gp m5 ((x1.1.getD i3.2 default).af) (0:Int),rest:=0 }:aA)]).set i3.1.length ({ (i3.1++[({ af:=(x1.1.getD i3.2 default).af,place:=(x1.1.getD i3.2 default).cj,fX:=gp m5 ((x1.1.getD i3.2 default).af) (0:Int),rest:=0 }:aA)]).getD i3.1.length default with rest:=bL (((i3.1++[({ af:=(x1.1.getD i3.2 default).af,place:=(x1.1.getD i3.2 default).cj,fX:=gp m5 ((x1.1.getD i3.2 default).af) (0:Int),rest:=0 }:aA)]).getD i3.1.length default).rest) ((x1.1.getD i3.2 default).sum) }),i3.2+1)))
 (.r 10 (.al (.p (bA x4 i3.1.length)) (.al (.p (x4.toNat < i3.1.length)) (.al (.p (bA x4 i3.1.length)) (.al (.o [.fc (sr aA.E i3.1 x4.toNat ({ i3.1.getD x4.toNat default with rest:=bL ((i3.1.getD x4.toNat default).rest) ((x1.1.getD i3.2 default).sum) }))]) (.p (x4.toNat < i3.1.length)))))) fun _ =>
 .wn 100002 i3.1.length (i3.1.set x4.toNat ({ i3.1.getD x4.toNat default with rest:=bL ((i3.1.getD x4.toNat default).rest) ((x1.1.getD i3.2 default).sum) })).length <|
 .r 11 .z fun _ =>
 .wi 25 (aq ((i3.2:Int)+1)) ((i3.2+1:Nat):Int) <|
 .fin (.inr (i3.1.set x4.toNat ({ i3.1.getD x4.toNat default with rest:=bL ((i3.1.getD x4.toNat default).rest) ((x1.1.getD i3.2 default).sum) }),i3.2+1))))
 (.fin (.inl (.inr i3.1))))
 (fun (b2:(List aA))=>⟨[(11,ow 100001 b2)],[(100001,bg 55 4 aA.cells b2)]⟩) fun b2 =>
 .r 12 ((nQ 100001 b2).c) fun x6 =>
 .wn 100001 b2.length x6.length <|
 .fin x6
def Jp r forum f day:=(iX r forum f day).val
theorem B3 (r:ai) (forum:Int) (f:ar) (day:Int):(iX r forum f day).cC (fun (x:(List aA))=>CrB (nP r forum f day).1→RI (nP r forum f day).1 (nP r forum f day).2 x):=by
 refine Sk.aX _ ?_
 unfold iX
 simp only [Sk.cx,Sk.aI,reduceCtorEq,ON,kk,kp,oM,jO,nQ,zV.c,maxLen]
 intro x1 Ea dH
 refine ⟨⟨⟨Nat.zero_le _,qn.init _ _,Nat.le_refl _⟩,fun i hi=>⟨fun hc _ x4 _ hx4=>⟨fun hn=>⟨dH.2.1,fun m hm _ _ _=>?_⟩,fun hn _ _=>?_⟩,fun hc=>?_⟩⟩,fun b hb x6 _ hx6 vX=>?_⟩
 all_goals try simp only [LN] at hc
 ·simp only [LN] at hn
  have qW:∀ q,q < i.1.length→(i.1.getD q default).af≠(x1.1.getD i.2 default).af:=fun q hq=>by
   have h:=hx4.resolve_right (fun h=>by omega)
   have:=h.2 q hq
   rw [ed] at this
   simpa using this
  refine ⟨⟨by omega,?_,by simp; omega⟩,by omega⟩
  rw [OP i.1 { af:=(x1.1.getD i.2 default).af,place:=(x1.1.getD i.2 default).cj,fX:=gp m (x1.1.getD i.2 default).af 0,rest:=0 }]
  exact hi.2.1.new qW rfl rfl (hm _) rfl
 ·simp only [LN] at hn
  have h:=hx4.resolve_left (fun h=>by omega)
  have vX:=h.2.2.1
  rw [ed] at vX
  refine ⟨⟨by omega,hi.2.1.old (by omega) (by simpa using vX),by simp; omega⟩,by omega⟩
 ·have e:i.2=x1.1.length:=by omega
  rw [← e]
  exact hi.2
 ·subst Ea
  obtain ⟨h1,h2⟩:=hx6 (hb.1.cr (Nat.le_refl _) vX)
  exact hb.1.out hb.2 h1 h2
theorem Ds (r:ai) (forum:Int) (f:ar) (day:Int) (hF:bX r f) (hT:YK r f) (bm:f.Small) (bM:r.ca) (bh:r.Small) (gh:r.fW) (eS:r.c9):(iX r forum f day).aZ (fun _=>True):=by
 refine Sk.aU _ ?_
 unfold iX
 simp only [Sk.jb,Sk.aI,reduceCtorEq,ON,kk,kp,oM,jO,nQ,zV.c,maxLen]
 refine ⟨⟨hF,bm,bM,bh,gh,eS⟩,fun x1 Ea dH=>?_⟩
 have hlen:x1.1.length≤10000000:=by
  have h1:=dH.1.count
  have h2:(dt r forum f day).length≤67240:=Ay hF
  have h3:(aB f day).au.length≤100:=by
   have h6:=(rH f day).2.1
   have h7:=hF.2.1.2.2.2.1
   omega
  have h4:=Nat.mul_le_mul h3 h2
  omega
 have hR:=dH.2.1
 have hCr:CrB x1.1:=by
  rw [Ea]
  exact RJ (by unfold ai.Small at bh; omega) hF eS hT
 refine ⟨⟨⟨Nat.zero_le _,qn.init _ _,Nat.le_refl _⟩,fun i hi ZA=>⟨fun hc=>⟨?_,fun _ x4 _ hx4=>⟨fun hn m hm=>⟨?_,?_⟩,fun hn=>?_⟩⟩,fun hc=>?_⟩⟩,fun b hb=>⟨?_,fun x6 _ hx6=>?_⟩⟩
 all_goals try simp only [LN] at hc
 ·exact ⟨⟨by omega,by omega⟩,by omega⟩
 ·simp only [Sk.ue,Sk.YH,Sk.PM,Sk.xh,Sk.jR]
  rw [show gp m (x1.1.getD i.2 default).af 0=gp (canon (Fh x1.2)) (x1.1.getD i.2 default).af 0 by rw [hm,hR.get]]
 ·simp only [LN] at hn
  have V7:=hi.2.2
  have qW:∀ q,q < i.1.length→(i.1.getD q default).af≠(x1.1.getD i.2 default).af:=fun q hq=>by
   have h:=hx4.resolve_right (fun h=>by omega)
   have:=h.2 q hq
   rw [ed] at this
   simpa using this
  have el:∀ s:aA,(i.1++[s]).length=i.1.length+1:=fun s=>by simp
  refine ⟨⟨by simp only [List.length_singleton]; omega,by simp only [List.length_singleton]; omega⟩,fun _=>⟨hm,⟨⟨by omega,by rw [el]; omega⟩,by rw [el]; omega,⟨by omega,by rw [el]; omega⟩,by rw [el]; omega⟩,fun _=>⟨by rw [List.length_set],fun _=>⟨(aD (by omega) (by omega)).trans (by omega),⟨by omega,?_,by rw [List.length_set,el]; omega⟩,by omega⟩⟩⟩⟩
  rw [OP i.1 { af:=(x1.1.getD i.2 default).af,place:=(x1.1.getD i.2 default).cj,fX:=gp m (x1.1.getD i.2 default).af 0,rest:=0 }]
  exact hi.2.1.new qW rfl rfl (hm _) rfl
 ·simp only [LN] at hn
  have V7:=hi.2.2
  have h:=hx4.resolve_left (fun h=>by omega)
  have vX:=h.2.2.1
  rw [ed] at vX
  refine ⟨⟨⟨by omega,by omega⟩,by omega,⟨by omega,by omega⟩,by omega⟩,fun _=>⟨by rw [List.length_set],fun _=>⟨(aD (by omega) (by omega)).trans (by omega),⟨by omega,hi.2.1.old (by omega) (by simpa using vX),by rw [List.length_set]; omega⟩,by omega⟩⟩⟩
 ·have e:i.2=x1.1.length:=by omega
  rw [← e]
  exact hi.2
 ·exact ⟨by have:=hb.2; omega,hb.1.cr (Nat.le_refl _) hCr⟩
 ·exact (hx6 (hb.1.cr (Nat.le_refl _) hCr)).1.length_eq.symm
def qb r forum f day:=kp tok mixed Tryz.func9 [av r.cells,iv forum,av f.cells,iv day] (fun x=>lv aA.cells x) false (Jp r forum f day) (u7 (Ds r forum f day)) (B3 r forum f day)
def lJ (r:ai) (forum:Int) (f:ar) (day:Int):Sk ((List Claim)) :=
 .r 1 ((oM r forum f day).c) fun x1 =>
 .fin x1.1
def QF r forum f day:=(lJ r forum f day).val
theorem HU (r:ai) (forum:Int) (f:ar) (day:Int):(lJ r forum f day).cC (fun (x:(List Claim))=>x=(nP r forum f day).1):=by
 unfold lJ
 try simp only [oM]
 exact B7
theorem Jq (r:ai) (forum:Int) (f:ar) (day:Int) (hF:bX r f) (bm:f.Small) (bM:r.ca) (bh:r.Small) (gh:r.fW) (eS:r.c9):(lJ r forum f day).aZ (fun _=>True):=by
 unfold lJ
 try simp only [oM]
 exact mu
def vU r forum f day:=kp tok mixed Tryz.func8 [av r.cells,iv forum,av f.cells,iv day] (fun x=>lv Claim.cells x) false (QF r forum f day) (u6 (Jq r forum f day)) (HU r forum f day)
def iY (r:ai) (forum:Int) (f:ar) (day:Int):Sk (Bool) :=
 .r 1 xn.c fun x1 =>
 .r 2 ((CJ r f).c) fun x2 =>
 .br (!x2)
 (.fin x1)
 (.r 4 ((qb r forum f day).c) fun x3 =>
 .r 5 ((vU r forum f day).c) fun x4 =>
 .r 6 ((vN r forum f day).c) fun x5 =>
 .bt
 (.loop (default:Sum (Bool) (Unit)) (fun i7=>i7≤x3.length) (fun i7=>x3.length - i7) (0:Nat)
 (fun (i7:Nat)=>⟨[(13,iv (i7:Int))],[]⟩) fun i7 =>
 .lt 10 0 i7 x3.length
 (.bt
 (.r 10 (.al (.wh (decide ((i7:Int) > 0)) true (.p (bA (aq ((i7:Int) - 1)) x3.length))) (.wh (decide ((i7:Int) > 0)) true (.p (bA (i7:Int) x3.length)))) fun _ =>
 .br ((decide ((i7:Int) > 0))&&(decide (((x3.getD ((aq ((i7:Int) - 1)).toNat) default).af)≥((x3.getD i7 default).af))))
 (.fin (.inl (.inl (.inl false))))
 (.bind true (fun b9=>b9.2.1=gu x4 (x3.getD i7 default).af x4.length∧((∃ q,q < x4.length∧(x4.getD q default).af=(x3.getD i7 default).af∧(x4.getD q default).cj=(x3.getD i7 default).place)→b9.1=true))
 (.loop (default:Sum (Sum (Sum (Sum (Bool) (Unit)) (Nat)) (Unit)) (Bool × Int × Int)) (fun i10=>i10.2.2≤x4.length∧i10.2.1=gu x4 (x3.getD i7 default).af i10.2.2∧((∃ q,q < i10.2.2∧(x4.getD q default).af=(x3.getD i7 default).af∧(x4.getD q default).cj=(x3.getD i7 default).place)→i10.1=true)) (fun i10=>x4.length - i10.2.2) ((false,0,0):Bool × Int × Nat)
 (fun (i10:Bool × Int × Nat)=>⟨[(14,bv i10.1),(15,iv i10.2.1),(16,iv (i10.2.2:Int))],[]⟩) fun i10 =>
 .lt 11 0 i10.2.2 x4.length
 (.r 17 (.al (.p (bA (i10.2.2:Int) x4.length)) (.p (bA (i7:Int) x3.length))) fun _ =>
 .br (((x4.getD i10.2.2 default).af) == ((x3.getD i7 default).af))
 (.r 18 (.al (.wh i10.1 false (.p (bA (i10.2.2:Int) x4.length))) (.wh i10.1 false (.p (bA (i7:Int) x3.length)))) fun _ =>
 .r 19 (.p (bA (i10.2.2:Int) x4.length)) fun _ =>
 .r 16 .z fun _ =>
 .wi 16 (aq ((i10.2.2:Int)+1)) ((i10.2.2+1:Nat):Int) <|
 .fin (.inr (i10.1||(((x4.getD i10.2.2 default).cj) == ((x3.getD i7 default).place)),bL i10.2.1 ((x4.getD i10.2.2 default).sum),i10.2.2+1)))
 (.nx 16 16 i10.2.2 (i10.1,i10.2.1,i10.2.2+1)))
 (.fin (.inl (.inr (i10.1,i10.2.1,(i10.2.2:Int))))))
 (fun (b9:Bool × Int × Int)=>⟨[(14,bv b9.1),(15,iv b9.2.1),(16,iv b9.2.2)],[]⟩) fun b9 =>
 .r 20 (.al (.wh (!b9.1) false (.p (bA (i7:Int) x3.length))) (.al (.wh ((!b9.1)||(b9.2.1 != ((x3.getD i7 default).rest))) false (.p (bA (i7:Int) x3.length))) (.wh (((!b9.1)||(b9.2.1 != ((x3.getD i7 default).rest)))||(decide (((x3.getD i7 default).fX) < 0))) false (.p (bA (i7:Int) x3.length))))) fun _ =>
 .br ((((!b9.1)||(b9.2.1 != ((x3.getD i7 default).rest)))||(decide (((x3.getD i7 default).fX) < 0)))||(decide (((x3.getD i7 default).fX) > 1099511627776)))
 (.fin (.inl (.inl (.inl false))))
 (.fin (.inr ()))))
 (fun (_:Unit)=>⟨[],[]⟩) fun _ =>
 .nx 9 13 i7 (i7+1))
 (.fin (.inl (.inr ()))))
 (fun (_:Unit)=>⟨[],[]⟩) fun _ =>
 .bt
 (.loop (default:Sum (Bool) (Unit)) (fun i12=>i12≤x5.length) (fun i12=>x5.length - i12) (0:Nat)
 (fun (i12:Nat)=>⟨[(17,iv (i12:Int))],[]⟩) fun i12 =>
 .lt 12 0 i12 x5.length
 (.bt
 (.bind true (fun B9=>(∃ q,q < x3.length∧(x3.getD q default).af=(x5.getD i12 default).af∧(x5.getD i12 default).sum≤aq ((x3.getD q default).fX+(x3.getD q default).rest))→B9.1=true)
 (.loop (default:Sum (Sum (Sum (Sum (Bool) (Unit)) (Nat)) (Unit)) (Bool × Int)) (fun i15=>i15.2≤x3.length∧((∃ q,q < i15.2∧(x3.getD q default).af=(x5.getD i12 default).af∧(x5.getD i12 default).sum≤aq ((x3.getD q default).fX+(x3.getD q default).rest))→i15.1=true)) (fun i15=>x3.length - i15.2) ((false,0):Bool × Nat)
 (fun (i15:Bool × Nat)=>⟨[(18,bv i15.1),(19,iv (i15.2:Int))],[]⟩) fun i15 =>
 .lt 10 0 i15.2 x3.length
 (.r 29 (.al (.wh i15.1 false (.p (bA (i15.2:Int) x3.length))) (.al (.wh i15.1 false (.p (bA (i12:Int) x5.length))) (.al (.wh i15.1 false (.wh (((x3.getD i15.2 default).af) == ((x5.getD i12 default).af)) true (.p (bA (i15.2:Int) x3.length)))) (.al (.wh i15.1 false (.wh (((x3.getD i15.2 default).af) == ((x5.getD i12 default).af)) true (.p (bA (i15.2:Int) x3.length)))) (.wh i15.1 false (.wh (((x3.getD i15.2 default).af) == ((x5.getD i12 default).af)) true (.p (bA (i12:Int) x5.length)))))))) fun _ =>
 .r 28 .z fun _ =>
 .wi 19 (aq ((i15.2:Int)+1)) ((i15.2+1:Nat):Int) <|
 .fin (.inr (i15.1||((((x3.getD i15.2 default).af) == ((x5.getD i12 default).af))&&(decide ((aq (((x3.getD i15.2 default).fX)+((x3.getD i15.2 default).rest)))≥((x5.getD i12 default).sum)))),i15.2+1)))
 (.fin (.inl (.inr (i15.1,(i15.2:Int))))))
 (fun (B9:Bool × Int)=>⟨[(18,bv B9.1),(19,iv B9.2)],[]⟩) fun B9 =>
 .br (!B9.1)
 (.fin (.inl (.inl (.inl false))))
 (.fin (.inr ())))
 (fun (_:Unit)=>⟨[],[]⟩) fun _ =>
 .nx 24 17 i12 (i12+1))
 (.fin (.inl (.inr ()))))
 (fun (_:Unit)=>⟨[],[]⟩) fun _ =>
 .fin x1)
def lL r forum f day:=(iY r forum f day).val
theorem tf (r:ai) (forum:Int) (f:ar) (day:Int):(iY r forum f day).cC (fun (x:Bool)=>x=true):=by
 refine Sk.aX _ ?_
 unfold iY
 simp only [Sk.cx,Sk.aI,reduceCtorEq,ON,kk,kp,CJ,xn,vN,vU,qb,maxLen]
 intro x1 _ Ea x2 Yt W7
 refine ⟨fun _=>Ea,fun hc x3 h3 hS x4 h4 e4 x5 h5=>?_⟩
 have hc:x2=true:=by simpa using hc
 obtain ⟨r1,r2,r3,r4,r5,r6,r7⟩:=W7 hc
 have dH:=vS r forum f day
 have hP:=r6.adi day
 have h0:nN (dt r forum f day):=fun y hy=>(DZ r6 r5 hy).2.2.2.2.2.2.1
 have hS:=hS (RJ (by unfold ai.Small at r1; omega) r6 r5 r7)
 rw [← h5] at dH h0
 rw [← e4] at dH hS
 have hlen:x3.length≤10000000:=by
  have h1:=dH.1.count
  have h2:x5.length≤67240:=by rw [h5]; exact Ay r6
  have h3:(aB f day).au.length≤100:=by
   have h6:=(rH f day).2.1
   have h7:=r6.2.1.2.2.2.1
   omega
  have h4:=Nat.mul_le_mul h3 h2
  have:=hS.len
  omega
 generalize (nP r forum f day).2=fm at *
 clear h3 h4 Yt W7 e4
 have nl:∀ {i n:Nat},decide ((i:Int) < (n:Int))=true→i < n:=fun h=>by simp only [LN] at h; omega
 have ng:∀ {i n:Nat},decide ((i:Int) < (n:Int))=false→i≤n→i=n:=fun h h2=>by simp only [LN] at h; omega
 have hex:∀ {p:Nat→Prop} {n:Nat},(∃ q,q < n+1∧p q)→¬ p n→∃ q,q < n∧p q:=fun ⟨q,h1,h2⟩ hn=>⟨q,by rcases Nat.lt_succ_iff_lt_or_eq.1 h1 with h | rfl; exact h; exact absurd h2 hn,h2⟩
 refine ⟨⟨Nat.zero_le _,fun i hi di=>⟨fun _=>⟨fun OX=>?_,fun _=>⟨⟨⟨Nat.zero_le _,rfl,fun ⟨q,h,_⟩=>absurd h (by omega)⟩,fun j hj=>⟨fun AF _=>⟨fun vX _ _ _=>?_,fun vX _=>?_⟩,fun AF=>?_⟩⟩,fun b hb _ OX=>?_⟩⟩,fun b _ _=>?_⟩⟩,?_⟩
 ·have di:=nl di
  simp only [LN] at OX
  have h1:=OX.2
  rw [aD (by omega) (by omega),show ((i:Int) - 1).toNat=i - 1 by omega] at h1
  have:=hS.asc (i - 1) i (by omega) di
  omega
 ·have AF:=nl AF
  refine ⟨⟨by omega,?_,fun h=>?_⟩,by omega⟩
  ·rw [gu,vX,cond_true,hj.2.1]
  ·rw [Bool.or_eq_true]
   by_cases hh:(x4.getD j.2.2 default).cj=(x3.getD i default).place
   ·exact .inr (by simpa using hh)
   ·exact .inl (hj.2.2 (hex h fun hq=>hh hq.2))
 ·have AF:=nl AF
  refine ⟨⟨by omega,?_,fun h=>?_⟩,by omega⟩
  ·rw [gu,vX,cond_false,hj.2.1]
  ·have qW:(x4.getD j.2.2 default).af≠(x3.getD i default).af:=by simpa using vX
   exact hj.2.2 (hex h fun hq=>qW hq.1)
 ·have e:=ng AF hj.1
  rw [← e]
  exact hj.2
 ·have di:=nl di
  obtain ⟨a1,a2,a3⟩:=hS.each i di
  have g:=WY dH hP h0 hS di
  have HX:b.1=true:=hb.2 a3
  rw [HX,hb.1,a2] at OX
  simp only [LN,bne_self_eq_false,Bool.false_or] at OX
  omega
 ·have di:=nl di
  exact ⟨by omega,by omega⟩
 refine fun _=>⟨⟨Nat.zero_le _,fun i hi di=>⟨⟨⟨⟨Nat.zero_le _,fun ⟨q,h,_⟩=>absurd h (by omega)⟩,fun j hj=>⟨fun AF _ _=>?_,fun AF=>?_⟩⟩,fun b hb OX=>?_⟩,fun b _ _=>?_⟩⟩,fun _=>Ea⟩
 ·have AF:=nl AF
  refine ⟨⟨by omega,fun h=>?_⟩,by omega⟩
  rw [Bool.or_eq_true]
  by_cases hh:(x3.getD j.2 default).af=(x5.getD i default).af∧(x5.getD i default).sum≤aq ((x3.getD j.2 default).fX+(x3.getD j.2 default).rest)
  ·exact .inr (by simp only [Bool.and_eq_true,beq_iff_eq,decide_eq_true_eq]; exact hh)
  ·exact .inl (hj.2 (hex h hh))
 ·have e:=ng AF hj.1
  rw [← e]
  exact hj.2
 ·have:b.1=true:=hb (Vo dH hP h0 hS (nl di))
  rw [this] at OX
  cases OX
 ·have di:=nl di
  exact ⟨by omega,by omega⟩
theorem AD (r:ai) (forum:Int) (f:ar) (day:Int):(fun (x:Bool)=>x=true) (lL r forum f day):=have h:=Sk.cZ _ (tf r forum f day); h
theorem Dt (r:ai) (forum:Int) (f:ar) (day:Int):(iY r forum f day).aZ (fun _=>True):=by
 refine Sk.aU _ ?_
 unfold iY
 simp only [Sk.jb,Sk.aI,reduceCtorEq,ON,kk,kp,CJ,xn,vN,vU,qb,maxLen]
 intro x1 _ Ea x2 Yt W7 hc
 have hc:x2=true:=by simpa using hc
 obtain ⟨r1,r2,r3,r4,r5,r6,r7⟩:=W7 hc
 have hS:=r6.small
 refine ⟨⟨r6,r7,hS,r2,r1,r4,r5⟩,fun x3 _ _=>⟨⟨r6,hS,r2,r1,r4,r5⟩,fun x4 _ _=>⟨⟨r6,hS,r2,r1,r4,r5⟩,fun x5 _=>?_⟩⟩⟩
 have nl:∀ {i n:Nat},decide ((i:Int) < (n:Int))=true→i < n:=fun h=>by simp only [LN] at h; omega
 have ng:∀ {i n:Nat},decide ((i:Int) < (n:Int))=false→i≤n→i=n:=fun h h2=>by simp only [LN] at h; omega
 have wn:∀ {i n:Nat},i < n→n≤2 ^ 63 - 1→aq ((i:Int)+1)=((i+1:Nat):Int):=fun h h2=>(aD (by omega) (by omega)).trans (by omega)
 have hex:∀ {p:Nat→Prop} {n:Nat},(∃ q,q < n+1∧p q)→¬ p n→∃ q,q < n∧p q:=fun ⟨q,h1,h2⟩ hn=>⟨q,by rcases Nat.lt_succ_iff_lt_or_eq.1 h1 with h | rfl; exact h; exact absurd h2 hn,h2⟩
 refine ⟨⟨Nat.zero_le _,fun i hi hm3 di=>?_⟩,?_⟩
 ·have di:=nl di
  refine ⟨⟨⟨fun h=>?_,fun _=>⟨by omega,by omega⟩⟩,fun _ _=>⟨⟨⟨Nat.zero_le _,rfl,fun ⟨q,h,_⟩=>absurd h (by omega)⟩,fun j hj hm4=>⟨fun AF=>?_,fun AF=>?_⟩⟩,fun b hb=>?_⟩⟩,fun b _ _=>⟨wn di hm3,by omega,by omega⟩⟩
  ·simp only [LN] at h
   rw [aD (by omega) (by omega)]
   exact ⟨by omega,by omega⟩
  ·have AF:=nl AF
   refine ⟨⟨⟨by omega,by omega⟩,by omega,by omega⟩,fun _=>⟨fun vX=>⟨⟨fun _=>⟨by omega,by omega⟩,fun _=>⟨by omega,by omega⟩⟩,fun _=>⟨⟨by omega,by omega⟩,fun _ _=>⟨wn AF hm4,⟨by omega,?_,fun h=>?_⟩,by omega⟩⟩⟩,fun vX _=>⟨wn AF hm4,⟨by omega,?_,fun h=>?_⟩,by omega⟩⟩⟩
   ·rw [gu,vX,cond_true,hj.2.1]
   ·rw [Bool.or_eq_true]
    by_cases hh:(x4.getD j.2.2 default).cj=(x3.getD i default).place
    ·exact .inr (by simpa using hh)
    ·exact .inl (hj.2.2 (hex h fun hq=>hh hq.2))
   ·rw [gu,vX,cond_false,hj.2.1]
   ·have qW:(x4.getD j.2.2 default).af≠(x3.getD i default).af:=by simpa using vX
    exact hj.2.2 (hex h fun hq=>qW hq.1)
  ·have e:=ng AF hj.1
   rw [← e]
   exact hj.2
  ·(repeat' first | apply And.intro | intro _) <;> first | trivial | omega
 ·refine fun _=>⟨Nat.zero_le _,fun i hi hm5 di=>?_⟩
  have di:=nl di
  refine ⟨⟨⟨Nat.zero_le _,fun ⟨q,h,_⟩=>absurd h (by omega)⟩,fun j hj hm3=>⟨fun AF=>?_,fun AF=>?_⟩⟩,fun b _ _=>⟨wn di hm5,by omega,by omega⟩⟩
  ·have AF:=nl AF
   refine ⟨by (repeat' first | apply And.intro | intro _) <;> omega,fun _ _=>⟨wn AF hm3,⟨by omega,fun h=>?_⟩,by omega⟩⟩
   rw [Bool.or_eq_true]
   by_cases hh:(x3.getD j.2 default).af=(x5.getD i default).af∧(x5.getD i default).sum≤aq ((x3.getD j.2 default).fX+(x3.getD j.2 default).rest)
   ·exact .inr (by simp only [Bool.and_eq_true,beq_iff_eq,decide_eq_true_eq]; exact hh)
   ·exact .inl (hj.2 (hex h hh))
  ·have e:=ng AF hj.1
   rw [← e]
   exact hj.2
def E1 r forum f day:=kp tok mixed Tryz.func4 [av r.cells,iv forum,av f.cells,iv day] (fun x=>bv x) true (lL r forum f day) (u0 (Dt r forum f day)) (tf r forum f day)
theorem Du (r:ai) (forum:Int) (f:ar) (day:Int):fA Tryz.prog 4 [av r.cells,iv forum,av f.cells,iv day] [] (bv (lL r forum f day)) []:=(E1 r forum f day).pf trivial
end
section
open Go Go.Av
theorem L4 {ds:List D} (h:cY TT 9 ds):∃ c:ByteArray,aG ds (gU c)∧(fun s:ByteArray=>s.size≤maxLen) c:=by
 obtain ⟨x,rfl,w⟩:=h.Wa rfl rfl
 exact ⟨x,aG.refl _,w⟩
theorem Zd {ds:List D} (h:cY TT 22 ds):∃ l:List ByteArray,aG ds [lf gU l]∧(fun l=>∀ x,x∈l→(fun s:ByteArray=>s.size≤maxLen) x) l:=by
 obtain ⟨n,f,rfl,g⟩:=h.eF rfl rfl
 obtain ⟨l,y,-,w⟩:=jd gU (fun s:ByteArray=>s.size≤maxLen) (fun ds h=>L4 h) g
 exact ⟨l,aG.one y,w⟩
theorem bD {ds:List D} (h:cY TT 3 ds):∃ c:Int,aG ds (bF c)∧(fun n=>dg n) c:=by
 obtain ⟨x,rfl,w⟩:=h.A1 rfl rfl
 exact ⟨x,aG.refl _,Wb w⟩
theorem QG {ds:List D} (h:cY TT 64 ds):∃ l:List Int,aG ds [lf bF l]∧(fun l=>∀ x,x∈l→(fun n=>dg n) x) l:=by
 obtain ⟨n,f,rfl,g⟩:=h.eF rfl rfl
 obtain ⟨l,y,-,w⟩:=jd bF (fun n=>dg n) (fun ds h=>bD h) g
 exact ⟨l,aG.one y,w⟩
structure gX.ok (c:gX):Prop where
 name:(fun s:ByteArray=>s.size≤maxLen) c.name
 order:(fun n=>dg n) c.order
 aE:(fun n=>dg n) c.aE
 rest:(fun l=>∀ x,x∈l→(fun n=>dg n) x) c.rest
 eG:(fun l=>∀ x,x∈l→(fun n=>dg n) x) c.eG
 shut:(fun l=>∀ x,x∈l→(fun n=>dg n) x) c.shut
theorem gX.of {ds:List D} (h:cY TT 159 ds):∃ c:gX,aG ds c.cells∧c.ok:=by
 have q0:=h.cK rfl rfl
 obtain ⟨p0,r0,rfl,h0,q1⟩:=q0.cons_inv
 obtain ⟨x0,y0,w0⟩:=L4 h0
 obtain ⟨p1,r1,rfl,h1,q2⟩:=q1.cons_inv
 obtain ⟨x1,y1,w1⟩:=bD h1
 obtain ⟨p2,r2,rfl,h2,q3⟩:=q2.cons_inv
 obtain ⟨x2,y2,w2⟩:=bD h2
 obtain ⟨p3,r3,rfl,h3,q4⟩:=q3.cons_inv
 obtain ⟨x3,y3,w3⟩:=QG h3
 obtain ⟨p4,r4,rfl,h4,q5⟩:=q4.cons_inv
 obtain ⟨x4,y4,w4⟩:=QG h4
 obtain ⟨p5,r5,rfl,h5,q6⟩:=q5.cons_inv
 obtain ⟨x5,y5,w5⟩:=QG h5
 cases q6.gD
 refine ⟨⟨x0,x1,x2,x3,x4,x5⟩,?_,⟨w0,w1,w2,w3,w4,w5⟩⟩
 have hh:=(aG.append y0 (aG.append y1 (aG.append y2 (aG.append y3 (aG.append y4 (aG.append y5 aG.nil))))))
 simpa only [gX.cells,bF,gU,nT,List.append_assoc,List.cons_append,List.nil_append,List.append_nil] using hh
theorem Ze {ds:List D} (h:cY TT 23 ds):∃ l:List gX,aG ds [lf gX.cells l]∧(fun l=>∀ x,x∈l→gX.ok x) l:=by
 obtain ⟨n,f,rfl,g⟩:=h.eF rfl rfl
 obtain ⟨l,y,-,w⟩:=jd gX.cells gX.ok (fun ds h=>gX.of h) g
 exact ⟨l,aG.one y,w⟩
structure ln.ok (c:ln):Prop where
 Nz:(fun n=>dg n) c.Nz
theorem ln.of {ds:List D} (h:cY TT 169 ds):∃ c:ln,aG ds c.cells∧c.ok:=by
 have q0:=h.cK rfl rfl
 obtain ⟨p0,r0,rfl,h0,q1⟩:=q0.cons_inv
 obtain ⟨x0,y0,w0⟩:=bD h0
 cases q1.gD
 refine ⟨⟨x0⟩,?_,⟨w0⟩⟩
 have hh:=(aG.append y0 aG.nil)
 simpa only [ln.cells,bF,gU,nT,List.append_assoc,List.cons_append,List.nil_append,List.append_nil] using hh
theorem Zf {ds:List D} (h:cY TT 24 ds):∃ l:List ln,aG ds [lf ln.cells l]∧(fun l=>∀ x,x∈l→ln.ok x) l:=by
 obtain ⟨n,f,rfl,g⟩:=h.eF rfl rfl
 obtain ⟨l,y,-,w⟩:=jd ln.cells ln.ok (fun ds h=>ln.of h) g
 exact ⟨l,aG.one y,w⟩
structure yN.ok (c:yN):Prop where
 name:(fun s:ByteArray=>s.size≤maxLen) c.name
 bQ:(fun n=>dg n) c.bQ
 group:(fun n=>dg n) c.group
theorem yN.of {ds:List D} (h:cY TT 171 ds):∃ c:yN,aG ds c.cells∧c.ok:=by
 have q0:=h.cK rfl rfl
 obtain ⟨p0,r0,rfl,h0,q1⟩:=q0.cons_inv
 obtain ⟨x0,y0,w0⟩:=L4 h0
 obtain ⟨p1,r1,rfl,h1,q2⟩:=q1.cons_inv
 obtain ⟨x1,y1,w1⟩:=bD h1
 obtain ⟨p2,r2,rfl,h2,q3⟩:=q2.cons_inv
 obtain ⟨x2,y2,w2⟩:=bD h2
 cases q3.gD
 refine ⟨⟨x0,x1,x2⟩,?_,⟨w0,w1,w2⟩⟩
 have hh:=(aG.append y0 (aG.append y1 (aG.append y2 aG.nil)))
 simpa only [yN.cells,bF,gU,nT,List.append_assoc,List.cons_append,List.nil_append,List.append_nil] using hh
theorem Zg {ds:List D} (h:cY TT 25 ds):∃ l:List yN,aG ds [lf yN.cells l]∧(fun l=>∀ x,x∈l→yN.ok x) l:=by
 obtain ⟨n,f,rfl,g⟩:=h.eF rfl rfl
 obtain ⟨l,y,-,w⟩:=jd yN.cells yN.ok (fun ds h=>yN.of h) g
 exact ⟨l,aG.one y,w⟩
theorem RK {ds:List D} (h:cY TT 4 ds):∃ c:Bool,aG ds (nT c)∧True:=by
 obtain ⟨x,rfl⟩:=h.Uh rfl rfl
 exact ⟨x,aG.refl _,trivial⟩
structure Choice.ok (c:Choice):Prop where
 ask:(fun n=>dg n) c.ask
 cj:(fun n=>dg n) c.cj
 whole:(fun _=>True) c.whole
theorem Choice.of {ds:List D} (h:cY TT 234 ds):∃ c:Choice,aG ds c.cells∧c.ok:=by
 have q0:=h.cK rfl rfl
 obtain ⟨p0,r0,rfl,h0,q1⟩:=q0.cons_inv
 obtain ⟨x0,y0,w0⟩:=bD h0
 obtain ⟨p1,r1,rfl,h1,q2⟩:=q1.cons_inv
 obtain ⟨x1,y1,w1⟩:=bD h1
 obtain ⟨p2,r2,rfl,h2,q3⟩:=q2.cons_inv
 obtain ⟨x2,y2,w2⟩:=RK h2
 cases q3.gD
 refine ⟨⟨x0,x1,x2⟩,?_,⟨w0,w1,w2⟩⟩
 have hh:=(aG.append y0 (aG.append y1 (aG.append y2 aG.nil)))
 simpa only [Choice.cells,bF,gU,nT,List.append_assoc,List.cons_append,List.nil_append,List.append_nil] using hh
theorem W8 {ds:List D} (h:cY TT 108 ds):∃ l:List Choice,aG ds [lf Choice.cells l]∧(fun l=>∀ x,x∈l→Choice.ok x) l:=by
 obtain ⟨n,f,rfl,g⟩:=h.eF rfl rfl
 obtain ⟨l,y,-,w⟩:=jd Choice.cells Choice.ok (fun ds h=>Choice.of h) g
 exact ⟨l,aG.one y,w⟩
theorem Term.W9 {t:Nat} {ds:List D} (h:cY TT t ds):(t=163→∃ c:Term,aG ds c.jf)∧(t=161→∃ l:List Term,aG ds [lf Term.jf l]):=by
 refine cY.rec (motive_1:=fun t ds _=>(t=163→∃ c:Term,aG ds c.jf)∧(t=161→∃ l:List Term,aG ds [lf Term.jf l]))
  (motive_2:=fun ts ds _=>(ts=[]→ds=[])∧(ts=[161]→∃ l:List Term,aG ds [lf Term.jf l])∧(ts=[3,161]→∃ (n:Int) (l:List Term),aG ds [dI n,lf Term.jf l])∧(ts=[3,3,161]→∃ (m n:Int) (l:List Term),aG ds [dI m,dI n,lf Term.jf l])) ?_ ?_ ?_ ?_ ?_ ?_ ?_ h
 ·intro t i k hi hk n hw
  exact ⟨fun e=>(by subst e; cases hi; cases hk),fun e=>(by subst e; cases hi; cases hk)⟩
 ·intro t i hi hk b
  exact ⟨fun e=>(by subst e; cases hi; cases hk),fun e=>(by subst e; cases hi; cases hk)⟩
 ·intro t i hi hk s hw
  exact ⟨fun e=>(by subst e; cases hi; cases hk),fun e=>(by subst e; cases hi; cases hk)⟩
 ·intro t e i hi hk n f hh ih
  refine ⟨fun e=>(by subst e; cases hi; cases hk),fun e=>?_⟩
  subst e
  cases hi
  cases hk
  classical
  let g:Nat→Term:=fun j=>if hj:j < n then ((ih j hj).1 rfl).choose else default
  have hg:∀ j,j < n→aG (f j) (g j).jf:=fun j hj=>by
   simp only [g,hj,dif_pos]
   exact ((ih j hj).1 rfl).choose_spec
  refine ⟨(List.range n).map g,aG.one ?_⟩
  have e:lf Term.jf ((List.range n).map g)=.sl n fun i=>Term.jf (((List.range n).map g).getD i default):=by simp [lf]
  rw [e]
  refine pQ.Xs fun i hi=>?_
  have:((List.range n).map g).getD i default=g i:=by simp [List.getD,hi]
  rw [this]
  exact hg i hi
 ·intro t i fs hi hk ds hs ih
  refine ⟨fun e=>?_,fun e=>(by subst e; cases hi; cases hk)⟩
  subst e
  cases hi
  cases hk
  obtain ⟨m,n,l,hl⟩:=ih.2.2.2 rfl
  refine ⟨⟨m,n,l⟩,?_⟩
  have h2:=(Term.NB ⟨m,n,l⟩).2
  have:aG [dI m,dI n,lf Term.jf l] (Term.jf ⟨m,n,l⟩):=aG.cons pQ.rfl' (aG.cons pQ.rfl' (aG.one h2))
  exact ⟨hl.1.trans this.1,fun j hj=>(hl.2 j hj).trans (this.2 j (by rw [← hl.1]; exact hj))⟩
 ·exact ⟨fun _=>rfl,fun e=>(by cases e),fun e=>(by cases e),fun e=>(by cases e)⟩
 ·intro t ts p ds hp hs ih1 ih2
  refine ⟨fun e=>(by cases e),fun e=>?_,fun e=>?_,fun e=>?_⟩
  ·cases e
   obtain ⟨l,hl⟩:=ih1.2 rfl
   have:=ih2.1 rfl
   subst this
   exact ⟨l,by simpa using hl⟩
  ·cases e
   obtain ⟨x,rfl,w⟩:=hp.A1 rfl rfl
   obtain ⟨l,hl⟩:=ih2.2.1 rfl
   exact ⟨x,l,aG.append (aG.refl _) hl⟩
  ·cases e
   obtain ⟨x,rfl,w⟩:=hp.A1 rfl rfl
   obtain ⟨n,l,hl⟩:=ih2.2.2.1 rfl
   exact ⟨x,n,l,aG.append (aG.refl _) hl⟩
theorem Term.ofR {ds:List D} (h:cY TT 163 ds):∃ c:Term,aG ds c.jf∧True:=by
 obtain ⟨c,hc⟩:=(Term.W9 h).1 rfl
 exact ⟨c,hc,trivial⟩
theorem Term.of {ds:List D} (h:cY TT 163 ds):∃ c:Term,aG ds c.cells∧True:=by
 obtain ⟨c,hc,_⟩:=Term.ofR h
 have hu:=c.Gm
 exact ⟨c,⟨hc.1.trans hu.1,fun j hj=>(hc.2 j hj).trans (hu.2 j (by rw [← hc.1]; exact hj))⟩,trivial⟩
structure rA.ok (c:rA):Prop where
 ask:(fun n=>dg n) c.ask
 term:(fun _=>True) c.term
theorem rA.of {ds:List D} (h:cY TT 165 ds):∃ c:rA,aG ds c.cells∧c.ok:=by
 have q0:=h.cK rfl rfl
 obtain ⟨p0,r0,rfl,h0,q1⟩:=q0.cons_inv
 obtain ⟨x0,y0,w0⟩:=bD h0
 obtain ⟨p1,r1,rfl,h1,q2⟩:=q1.cons_inv
 obtain ⟨x1,y1,w1⟩:=Term.of h1
 cases q2.gD
 refine ⟨⟨x0,x1⟩,?_,⟨w0,w1⟩⟩
 have hh:=(aG.append y0 (aG.append y1 aG.nil))
 simpa only [rA.cells,bF,gU,nT,List.append_assoc,List.cons_append,List.nil_append,List.append_nil] using hh
theorem Xa {ds:List D} (h:cY TT 109 ds):∃ l:List rA,aG ds [lf rA.cells l]∧(fun l=>∀ x,x∈l→rA.ok x) l:=by
 obtain ⟨n,f,rfl,g⟩:=h.eF rfl rfl
 obtain ⟨l,y,-,w⟩:=jd rA.cells rA.ok (fun ds h=>rA.of h) g
 exact ⟨l,aG.one y,w⟩
structure Order.ok (c:Order):Prop where
 name:(fun s:ByteArray=>s.size≤maxLen) c.name
 Fi:(fun _=>True) c.Fi
 aP:(fun l=>∀ x,x∈l→Choice.ok x) c.aP
 rules:(fun l=>∀ x,x∈l→rA.ok x) c.rules
theorem Order.of {ds:List D} (h:cY TT 111 ds):∃ c:Order,aG ds c.cells∧c.ok:=by
 have q0:=h.cK rfl rfl
 obtain ⟨p0,r0,rfl,h0,q1⟩:=q0.cons_inv
 obtain ⟨x0,y0,w0⟩:=L4 h0
 obtain ⟨p1,r1,rfl,h1,q2⟩:=q1.cons_inv
 obtain ⟨x1,y1,w1⟩:=RK h1
 obtain ⟨p2,r2,rfl,h2,q3⟩:=q2.cons_inv
 obtain ⟨x2,y2,w2⟩:=W8 h2
 obtain ⟨p3,r3,rfl,h3,q4⟩:=q3.cons_inv
 obtain ⟨x3,y3,w3⟩:=Xa h3
 cases q4.gD
 refine ⟨⟨x0,x1,x2,x3⟩,?_,⟨w0,w1,w2,w3⟩⟩
 have hh:=(aG.append y0 (aG.append y1 (aG.append y2 (aG.append y3 aG.nil))))
 simpa only [Order.cells,bF,gU,nT,List.append_assoc,List.cons_append,List.nil_append,List.append_nil] using hh
theorem Zh {ds:List D} (h:cY TT 26 ds):∃ l:List Order,aG ds [lf Order.cells l]∧(fun l=>∀ x,x∈l→Order.ok x) l:=by
 obtain ⟨n,f,rfl,g⟩:=h.eF rfl rfl
 obtain ⟨l,y,-,w⟩:=jd Order.cells Order.ok (fun ds h=>Order.of h) g
 exact ⟨l,aG.one y,w⟩
structure cR.ok (c:cR):Prop where
 from_:(fun n=>dg n) c.from_
 bP:(fun n=>dg n) c.bP
 days:(fun n=>dg n) c.days
theorem cR.of {ds:List D} (h:cY TT 173 ds):∃ c:cR,aG ds c.cells∧c.ok:=by
 have q0:=h.cK rfl rfl
 obtain ⟨p0,r0,rfl,h0,q1⟩:=q0.cons_inv
 obtain ⟨x0,y0,w0⟩:=bD h0
 obtain ⟨p1,r1,rfl,h1,q2⟩:=q1.cons_inv
 obtain ⟨x1,y1,w1⟩:=bD h1
 obtain ⟨p2,r2,rfl,h2,q3⟩:=q2.cons_inv
 obtain ⟨x2,y2,w2⟩:=bD h2
 cases q3.gD
 refine ⟨⟨x0,x1,x2⟩,?_,⟨w0,w1,w2⟩⟩
 have hh:=(aG.append y0 (aG.append y1 (aG.append y2 aG.nil)))
 simpa only [cR.cells,bF,gU,nT,List.append_assoc,List.cons_append,List.nil_append,List.append_nil] using hh
theorem Zi {ds:List D} (h:cY TT 27 ds):∃ l:List cR,aG ds [lf cR.cells l]∧(fun l=>∀ x,x∈l→cR.ok x) l:=by
 obtain ⟨n,f,rfl,g⟩:=h.eF rfl rfl
 obtain ⟨l,y,-,w⟩:=jd cR.cells cR.ok (fun ds h=>cR.of h) g
 exact ⟨l,aG.one y,w⟩
structure mw.ok (c:mw):Prop where
 from_:(fun n=>dg n) c.from_
 bP:(fun n=>dg n) c.bP
 num:(fun n=>dg n) c.num
 den:(fun n=>dg n) c.den
 since:(fun n=>dg n) c.since
theorem mw.of {ds:List D} (h:cY TT 175 ds):∃ c:mw,aG ds c.cells∧c.ok:=by
 have q0:=h.cK rfl rfl
 obtain ⟨p0,r0,rfl,h0,q1⟩:=q0.cons_inv
 obtain ⟨x0,y0,w0⟩:=bD h0
 obtain ⟨p1,r1,rfl,h1,q2⟩:=q1.cons_inv
 obtain ⟨x1,y1,w1⟩:=bD h1
 obtain ⟨p2,r2,rfl,h2,q3⟩:=q2.cons_inv
 obtain ⟨x2,y2,w2⟩:=bD h2
 obtain ⟨p3,r3,rfl,h3,q4⟩:=q3.cons_inv
 obtain ⟨x3,y3,w3⟩:=bD h3
 obtain ⟨p4,r4,rfl,h4,q5⟩:=q4.cons_inv
 obtain ⟨x4,y4,w4⟩:=bD h4
 cases q5.gD
 refine ⟨⟨x0,x1,x2,x3,x4⟩,?_,⟨w0,w1,w2,w3,w4⟩⟩
 have hh:=(aG.append y0 (aG.append y1 (aG.append y2 (aG.append y3 (aG.append y4 aG.nil)))))
 simpa only [mw.cells,bF,gU,nT,List.append_assoc,List.cons_append,List.nil_append,List.append_nil] using hh
theorem Zj {ds:List D} (h:cY TT 28 ds):∃ l:List mw,aG ds [lf mw.cells l]∧(fun l=>∀ x,x∈l→mw.ok x) l:=by
 obtain ⟨n,f,rfl,g⟩:=h.eF rfl rfl
 obtain ⟨l,y,-,w⟩:=jd mw.cells mw.ok (fun ds h=>mw.of h) g
 exact ⟨l,aG.one y,w⟩
structure Halt.ok (c:Halt):Prop where
 order:(fun n=>dg n) c.order
 from_:(fun n=>dg n) c.from_
 bP:(fun n=>dg n) c.bP
theorem Halt.of {ds:List D} (h:cY TT 177 ds):∃ c:Halt,aG ds c.cells∧c.ok:=by
 have q0:=h.cK rfl rfl
 obtain ⟨p0,r0,rfl,h0,q1⟩:=q0.cons_inv
 obtain ⟨x0,y0,w0⟩:=bD h0
 obtain ⟨p1,r1,rfl,h1,q2⟩:=q1.cons_inv
 obtain ⟨x1,y1,w1⟩:=bD h1
 obtain ⟨p2,r2,rfl,h2,q3⟩:=q2.cons_inv
 obtain ⟨x2,y2,w2⟩:=bD h2
 cases q3.gD
 refine ⟨⟨x0,x1,x2⟩,?_,⟨w0,w1,w2⟩⟩
 have hh:=(aG.append y0 (aG.append y1 (aG.append y2 aG.nil)))
 simpa only [Halt.cells,bF,gU,nT,List.append_assoc,List.cons_append,List.nil_append,List.append_nil] using hh
theorem Zk {ds:List D} (h:cY TT 29 ds):∃ l:List Halt,aG ds [lf Halt.cells l]∧(fun l=>∀ x,x∈l→Halt.ok x) l:=by
 obtain ⟨n,f,rfl,g⟩:=h.eF rfl rfl
 obtain ⟨l,y,-,w⟩:=jd Halt.cells Halt.ok (fun ds h=>Halt.of h) g
 exact ⟨l,aG.one y,w⟩
structure ai.ok (c:ai):Prop where
 bN:(fun l=>∀ x,x∈l→(fun s:ByteArray=>s.size≤maxLen) x) c.bN
 aK:(fun l=>∀ x,x∈l→gX.ok x) c.aK
 eH:(fun l=>∀ x,x∈l→ln.ok x) c.eH
 aQ:(fun l=>∀ x,x∈l→yN.ok x) c.aQ
 aC:(fun l=>∀ x,x∈l→Order.ok x) c.aC
 aJ:(fun l=>∀ x,x∈l→cR.ok x) c.aJ
 bn:(fun l=>∀ x,x∈l→mw.ok x) c.bn
 dp:(fun l=>∀ x,x∈l→Halt.ok x) c.dp
theorem ai.of {ds:List D} (h:cY TT 31 ds):∃ c:ai,aG ds c.cells∧c.ok:=by
 have q0:=h.cK rfl rfl
 obtain ⟨p0,r0,rfl,h0,q1⟩:=q0.cons_inv
 obtain ⟨x0,y0,w0⟩:=Zd h0
 obtain ⟨p1,r1,rfl,h1,q2⟩:=q1.cons_inv
 obtain ⟨x1,y1,w1⟩:=Ze h1
 obtain ⟨p2,r2,rfl,h2,q3⟩:=q2.cons_inv
 obtain ⟨x2,y2,w2⟩:=Zf h2
 obtain ⟨p3,r3,rfl,h3,q4⟩:=q3.cons_inv
 obtain ⟨x3,y3,w3⟩:=Zg h3
 obtain ⟨p4,r4,rfl,h4,q5⟩:=q4.cons_inv
 obtain ⟨x4,y4,w4⟩:=Zh h4
 obtain ⟨p5,r5,rfl,h5,q6⟩:=q5.cons_inv
 obtain ⟨x5,y5,w5⟩:=Zi h5
 obtain ⟨p6,r6,rfl,h6,q7⟩:=q6.cons_inv
 obtain ⟨x6,y6,w6⟩:=Zj h6
 obtain ⟨p7,r7,rfl,h7,q8⟩:=q7.cons_inv
 obtain ⟨x7,y7,w7⟩:=Zk h7
 cases q8.gD
 refine ⟨⟨x0,x1,x2,x3,x4,x5,x6,x7⟩,?_,⟨w0,w1,w2,w3,w4,w5,w6,w7⟩⟩
 have hh:=(aG.append y0 (aG.append y1 (aG.append y2 (aG.append y3 (aG.append y4 (aG.append y5 (aG.append y6 (aG.append y7 aG.nil))))))))
 simpa only [ai.cells,bF,gU,nT,List.append_assoc,List.cons_append,List.nil_append,List.append_nil] using hh
structure pD.ok (c:pD):Prop where
 kind:(fun n=>dg n) c.kind
 n:(fun n=>dg n) c.n
 unit:(fun n=>dg n) c.unit
theorem pD.of {ds:List D} (h:cY TT 33 ds):∃ c:pD,aG ds c.cells∧c.ok:=by
 have q0:=h.cK rfl rfl
 obtain ⟨p0,r0,rfl,h0,q1⟩:=q0.cons_inv
 obtain ⟨x0,y0,w0⟩:=bD h0
 obtain ⟨p1,r1,rfl,h1,q2⟩:=q1.cons_inv
 obtain ⟨x1,y1,w1⟩:=bD h1
 obtain ⟨p2,r2,rfl,h2,q3⟩:=q2.cons_inv
 obtain ⟨x2,y2,w2⟩:=bD h2
 cases q3.gD
 refine ⟨⟨x0,x1,x2⟩,?_,⟨w0,w1,w2⟩⟩
 have hh:=(aG.append y0 (aG.append y1 (aG.append y2 aG.nil)))
 simpa only [pD.cells,bF,gU,nT,List.append_assoc,List.cons_append,List.nil_append,List.append_nil] using hh
structure og.ok (c:og):Prop where
 zW:(fun n=>dg n) c.zW
 rB:(fun n=>dg n) c.rB
 bO:(fun n=>dg n) c.bO
 sum:(fun n=>dg n) c.sum
 aE:(fun n=>dg n) c.aE
 cU:pD.ok c.cU
 day:(fun n=>dg n) c.day
 bQ:(fun n=>dg n) c.bQ
 B8:(fun n=>dg n) c.B8
 need:(fun n=>dg n) c.need
 mW:(fun n=>dg n) c.mW
 flags:(fun n=>dg n) c.flags
 parts:(fun n=>dg n) c.parts
theorem og.of {ds:List D} (h:cY TT 35 ds):∃ c:og,aG ds c.cells∧c.ok:=by
 have q0:=h.cK rfl rfl
 obtain ⟨p0,r0,rfl,h0,q1⟩:=q0.cons_inv
 obtain ⟨x0,y0,w0⟩:=bD h0
 obtain ⟨p1,r1,rfl,h1,q2⟩:=q1.cons_inv
 obtain ⟨x1,y1,w1⟩:=bD h1
 obtain ⟨p2,r2,rfl,h2,q3⟩:=q2.cons_inv
 obtain ⟨x2,y2,w2⟩:=bD h2
 obtain ⟨p3,r3,rfl,h3,q4⟩:=q3.cons_inv
 obtain ⟨x3,y3,w3⟩:=bD h3
 obtain ⟨p4,r4,rfl,h4,q5⟩:=q4.cons_inv
 obtain ⟨x4,y4,w4⟩:=bD h4
 obtain ⟨p5,r5,rfl,h5,q6⟩:=q5.cons_inv
 obtain ⟨x5,y5,w5⟩:=pD.of h5
 obtain ⟨p6,r6,rfl,h6,q7⟩:=q6.cons_inv
 obtain ⟨x6,y6,w6⟩:=bD h6
 obtain ⟨p7,r7,rfl,h7,q8⟩:=q7.cons_inv
 obtain ⟨x7,y7,w7⟩:=bD h7
 obtain ⟨p8,r8,rfl,h8,q9⟩:=q8.cons_inv
 obtain ⟨x8,y8,w8⟩:=bD h8
 obtain ⟨p9,r9,rfl,h9,q10⟩:=q9.cons_inv
 obtain ⟨x9,y9,w9⟩:=bD h9
 obtain ⟨PV,r10,rfl,h10,q11⟩:=q10.cons_inv
 obtain ⟨Mk,QA,w10⟩:=bD h10
 obtain ⟨Su,r11,rfl,h11,q12⟩:=q11.cons_inv
 obtain ⟨YM,y11,w11⟩:=bD h11
 obtain ⟨UP,r12,rfl,h12,q13⟩:=q12.cons_inv
 obtain ⟨Wz,y12,w12⟩:=bD h12
 cases q13.gD
 refine ⟨⟨x0,x1,x2,x3,x4,x5,x6,x7,x8,x9,Mk,YM,Wz⟩,?_,⟨w0,w1,w2,w3,w4,w5,w6,w7,w8,w9,w10,w11,w12⟩⟩
 have hh:=(aG.append y0 (aG.append y1 (aG.append y2 (aG.append y3 (aG.append y4 (aG.append y5 (aG.append y6 (aG.append y7 (aG.append y8 (aG.append y9 (aG.append QA (aG.append y11 (aG.append y12 aG.nil)))))))))))))
 simpa only [og.cells,bF,gU,nT,List.append_assoc,List.cons_append,List.nil_append,List.append_nil] using hh
structure Sign.ok (c:Sign):Prop where
 kind:(fun n=>dg n) c.kind
 part:(fun n=>dg n) c.part
 dY:(fun n=>dg n) c.dY
 for_:(fun n=>dg n) c.for_
 bP:(fun n=>dg n) c.bP
 sum:(fun n=>dg n) c.sum
 day:(fun n=>dg n) c.day
 bQ:(fun n=>dg n) c.bQ
 flags:(fun n=>dg n) c.flags
theorem Sign.of {ds:List D} (h:cY TT 96 ds):∃ c:Sign,aG ds c.cells∧c.ok:=by
 have q0:=h.cK rfl rfl
 obtain ⟨p0,r0,rfl,h0,q1⟩:=q0.cons_inv
 obtain ⟨x0,y0,w0⟩:=bD h0
 obtain ⟨p1,r1,rfl,h1,q2⟩:=q1.cons_inv
 obtain ⟨x1,y1,w1⟩:=bD h1
 obtain ⟨p2,r2,rfl,h2,q3⟩:=q2.cons_inv
 obtain ⟨x2,y2,w2⟩:=bD h2
 obtain ⟨p3,r3,rfl,h3,q4⟩:=q3.cons_inv
 obtain ⟨x3,y3,w3⟩:=bD h3
 obtain ⟨p4,r4,rfl,h4,q5⟩:=q4.cons_inv
 obtain ⟨x4,y4,w4⟩:=bD h4
 obtain ⟨p5,r5,rfl,h5,q6⟩:=q5.cons_inv
 obtain ⟨x5,y5,w5⟩:=bD h5
 obtain ⟨p6,r6,rfl,h6,q7⟩:=q6.cons_inv
 obtain ⟨x6,y6,w6⟩:=bD h6
 obtain ⟨p7,r7,rfl,h7,q8⟩:=q7.cons_inv
 obtain ⟨x7,y7,w7⟩:=bD h7
 obtain ⟨p8,r8,rfl,h8,q9⟩:=q8.cons_inv
 obtain ⟨x8,y8,w8⟩:=bD h8
 cases q9.gD
 refine ⟨⟨x0,x1,x2,x3,x4,x5,x6,x7,x8⟩,?_,⟨w0,w1,w2,w3,w4,w5,w6,w7,w8⟩⟩
 have hh:=(aG.append y0 (aG.append y1 (aG.append y2 (aG.append y3 (aG.append y4 (aG.append y5 (aG.append y6 (aG.append y7 (aG.append y8 aG.nil)))))))))
 simpa only [Sign.cells,bF,gU,nT,List.append_assoc,List.cons_append,List.nil_append,List.append_nil] using hh
theorem Zl {ds:List D} (h:cY TT 36 ds):∃ l:List Sign,aG ds [lf Sign.cells l]∧(fun l=>∀ x,x∈l→Sign.ok x) l:=by
 obtain ⟨n,f,rfl,g⟩:=h.eF rfl rfl
 obtain ⟨l,y,-,w⟩:=jd Sign.cells Sign.ok (fun ds h=>Sign.of h) g
 exact ⟨l,aG.one y,w⟩
structure cV.ok (c:cV):Prop where
 at_:(fun n=>dg n) c.at_
 sum:(fun n=>dg n) c.sum
theorem cV.of {ds:List D} (h:cY TT 115 ds):∃ c:cV,aG ds c.cells∧c.ok:=by
 have q0:=h.cK rfl rfl
 obtain ⟨p0,r0,rfl,h0,q1⟩:=q0.cons_inv
 obtain ⟨x0,y0,w0⟩:=bD h0
 obtain ⟨p1,r1,rfl,h1,q2⟩:=q1.cons_inv
 obtain ⟨x1,y1,w1⟩:=bD h1
 cases q2.gD
 refine ⟨⟨x0,x1⟩,?_,⟨w0,w1⟩⟩
 have hh:=(aG.append y0 (aG.append y1 aG.nil))
 simpa only [cV.cells,bF,gU,nT,List.append_assoc,List.cons_append,List.nil_append,List.append_nil] using hh
theorem Zm {ds:List D} (h:cY TT 37 ds):∃ l:List cV,aG ds [lf cV.cells l]∧(fun l=>∀ x,x∈l→cV.ok x) l:=by
 obtain ⟨n,f,rfl,g⟩:=h.eF rfl rfl
 obtain ⟨l,y,-,w⟩:=jd cV.cells cV.ok (fun ds h=>cV.of h) g
 exact ⟨l,aG.one y,w⟩
structure bC.ok (c:bC):Prop where
 kind:(fun n=>dg n) c.kind
 dY:(fun n=>dg n) c.dY
 bP:(fun n=>dg n) c.bP
 part:(fun n=>dg n) c.part
 at_:(fun n=>dg n) c.at_
 sum:(fun n=>dg n) c.sum
 day:(fun n=>dg n) c.day
 bQ:(fun n=>dg n) c.bQ
 form:(fun n=>dg n) c.form
theorem bC.of {ds:List D} (h:cY TT 62 ds):∃ c:bC,aG ds c.cells∧c.ok:=by
 have q0:=h.cK rfl rfl
 obtain ⟨p0,r0,rfl,h0,q1⟩:=q0.cons_inv
 obtain ⟨x0,y0,w0⟩:=bD h0
 obtain ⟨p1,r1,rfl,h1,q2⟩:=q1.cons_inv
 obtain ⟨x1,y1,w1⟩:=bD h1
 obtain ⟨p2,r2,rfl,h2,q3⟩:=q2.cons_inv
 obtain ⟨x2,y2,w2⟩:=bD h2
 obtain ⟨p3,r3,rfl,h3,q4⟩:=q3.cons_inv
 obtain ⟨x3,y3,w3⟩:=bD h3
 obtain ⟨p4,r4,rfl,h4,q5⟩:=q4.cons_inv
 obtain ⟨x4,y4,w4⟩:=bD h4
 obtain ⟨p5,r5,rfl,h5,q6⟩:=q5.cons_inv
 obtain ⟨x5,y5,w5⟩:=bD h5
 obtain ⟨p6,r6,rfl,h6,q7⟩:=q6.cons_inv
 obtain ⟨x6,y6,w6⟩:=bD h6
 obtain ⟨p7,r7,rfl,h7,q8⟩:=q7.cons_inv
 obtain ⟨x7,y7,w7⟩:=bD h7
 obtain ⟨p8,r8,rfl,h8,q9⟩:=q8.cons_inv
 obtain ⟨x8,y8,w8⟩:=bD h8
 cases q9.gD
 refine ⟨⟨x0,x1,x2,x3,x4,x5,x6,x7,x8⟩,?_,⟨w0,w1,w2,w3,w4,w5,w6,w7,w8⟩⟩
 have hh:=(aG.append y0 (aG.append y1 (aG.append y2 (aG.append y3 (aG.append y4 (aG.append y5 (aG.append y6 (aG.append y7 (aG.append y8 aG.nil)))))))))
 simpa only [bC.cells,bF,gU,nT,List.append_assoc,List.cons_append,List.nil_append,List.append_nil] using hh
theorem Zn {ds:List D} (h:cY TT 38 ds):∃ l:List bC,aG ds [lf bC.cells l]∧(fun l=>∀ x,x∈l→bC.ok x) l:=by
 obtain ⟨n,f,rfl,g⟩:=h.eF rfl rfl
 obtain ⟨l,y,-,w⟩:=jd bC.cells bC.ok (fun ds h=>bC.of h) g
 exact ⟨l,aG.one y,w⟩
structure Fact.ok (c:Fact):Prop where
 kind:(fun n=>dg n) c.kind
 at_:(fun n=>dg n) c.at_
 n:(fun n=>dg n) c.n
theorem Fact.of {ds:List D} (h:cY TT 45 ds):∃ c:Fact,aG ds c.cells∧c.ok:=by
 have q0:=h.cK rfl rfl
 obtain ⟨p0,r0,rfl,h0,q1⟩:=q0.cons_inv
 obtain ⟨x0,y0,w0⟩:=bD h0
 obtain ⟨p1,r1,rfl,h1,q2⟩:=q1.cons_inv
 obtain ⟨x1,y1,w1⟩:=bD h1
 obtain ⟨p2,r2,rfl,h2,q3⟩:=q2.cons_inv
 obtain ⟨x2,y2,w2⟩:=bD h2
 cases q3.gD
 refine ⟨⟨x0,x1,x2⟩,?_,⟨w0,w1,w2⟩⟩
 have hh:=(aG.append y0 (aG.append y1 (aG.append y2 aG.nil)))
 simpa only [Fact.cells,bF,gU,nT,List.append_assoc,List.cons_append,List.nil_append,List.append_nil] using hh
theorem Zo {ds:List D} (h:cY TT 39 ds):∃ l:List Fact,aG ds [lf Fact.cells l]∧(fun l=>∀ x,x∈l→Fact.ok x) l:=by
 obtain ⟨n,f,rfl,g⟩:=h.eF rfl rfl
 obtain ⟨l,y,-,w⟩:=jd Fact.cells Fact.ok (fun ds h=>Fact.of h) g
 exact ⟨l,aG.one y,w⟩
structure ar.ok (c:ar):Prop where
 aH:og.ok c.aH
 ah:(fun l=>∀ x,x∈l→Sign.ok x) c.ah
 aO:(fun l=>∀ x,x∈l→cV.ok x) c.aO
 au:(fun l=>∀ x,x∈l→bC.ok x) c.au
 facts:(fun l=>∀ x,x∈l→Fact.ok x) c.facts
theorem ar.of {ds:List D} (h:cY TT 41 ds):∃ c:ar,aG ds c.cells∧c.ok:=by
 have q0:=h.cK rfl rfl
 obtain ⟨p0,r0,rfl,h0,q1⟩:=q0.cons_inv
 obtain ⟨x0,y0,w0⟩:=og.of h0
 obtain ⟨p1,r1,rfl,h1,q2⟩:=q1.cons_inv
 obtain ⟨x1,y1,w1⟩:=Zl h1
 obtain ⟨p2,r2,rfl,h2,q3⟩:=q2.cons_inv
 obtain ⟨x2,y2,w2⟩:=Zm h2
 obtain ⟨p3,r3,rfl,h3,q4⟩:=q3.cons_inv
 obtain ⟨x3,y3,w3⟩:=Zn h3
 obtain ⟨p4,r4,rfl,h4,q5⟩:=q4.cons_inv
 obtain ⟨x4,y4,w4⟩:=Zo h4
 cases q5.gD
 refine ⟨⟨x0,x1,x2,x3,x4⟩,?_,⟨w0,w1,w2,w3,w4⟩⟩
 have hh:=(aG.append y0 (aG.append y1 (aG.append y2 (aG.append y3 (aG.append y4 aG.nil)))))
 simpa only [ar.cells,bF,gU,nT,List.append_assoc,List.cons_append,List.nil_append,List.append_nil] using hh
theorem yf (Yw:∀ (a0:ai) (a1:Int) (a2:ar) (a3:Int),lL a0 a1 a2 a3=true) (O1:List (List D)) (h:K4 TT [31,3,41,3] O1):fA Tryz.prog 4 (vi TT [31,3,41,3] O1) [] (.d (.v (.bool true))) []:=by
 obtain ⟨d0,d1,d2,d3,rfl⟩:∃ d0 d1 d2 d3,O1=[d0,d1,d2,d3]:=by
  match O1,h with
  | [d0,d1,d2,d3],_=>exact ⟨d0,d1,d2,d3,rfl⟩
 obtain ⟨h0,h1,h2,h3,-⟩:=h
 obtain ⟨x0,y0,w0⟩:=ai.of h0
 obtain ⟨x1,rfl,w1⟩:=h1.A1 rfl rfl
 obtain ⟨x2,y2,w2⟩:=ar.of h2
 obtain ⟨x3,rfl,w3⟩:=h3.A1 rfl rfl
 have hf:=Du x0 x1 x2 x3
 rw [Yw] at hf
 exact fA.Q4 hf ⟨sq.d y0.agg,sq.rfl',sq.d y2.agg,sq.rfl',trivial⟩
end
section
open Go Go.Av
theorem B4 (a0:ai) (a1:Int) (a2:ar) (a3:Int):lL a0 a1 a2 a3=true :=
 AD a0 a1 a2 a3
end
end
end Go.Proofs.YtgmnlkccjlnnbaaGreatDoor
