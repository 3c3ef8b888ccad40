/- Functions, as sketches. -/
import Derived.Test.YtkbkoaoolojhaaaGreatDoorLg
set_option linter.unusedSimpArgs false
set_option linter.unusedVariables false
set_option maxHeartbeats 1000000
set_option maxRecDepth 100000
namespace Go.Proofs.YtkbkoaoolojhaaaGreatDoor
noncomputable section
open Go Go.Av
/-- half a U2: Jw ag2 in two aeL,Jw first one adP; a digit follows -/
def HY (y1 y0 u d:Int):Prop:=(2147483648≤y1∧y1 < 4294967296)∧(0≤y0∧y0 < 4294967296)∧(0≤u∧u < y1 * 4294967296+y0)∧0≤d∧d < 4294967296
/-- a quotient VX may be too adP -/
def HI (y1 y0 u d q r:Int):Prop:=(0≤q∧q < 18446744073709551616)∧q * y1+r=u∧(0≤r∧r < 4294967296)∧u * 4294967296+d < 4294967296 * (q * y1)+4294967296 * y1+q * y0+y0
/-- Jw quotient -/
def HQ (y1 y0 u d q:Int):Prop:=(0≤q∧q < 4294967296)∧4294967296 * (q * y1)+q * y0≤u * 4294967296+d∧u * 4294967296+d < 4294967296 * (q * y1)+4294967296 * y1+q * y0+y0
theorem BD {y1 y0 u d:Int} (h:HY y1 y0 u d):HI y1 y0 u d (IntKind.u64.wrap (u.tdiv y1)) (IntKind.u64.wrap (u - IntKind.u64.wrap (IntKind.u64.wrap (u.tdiv y1) * y1))):=by
  obtain ⟨h1,h2,h3,h4⟩:=h
  have e:u.tdiv y1=u / y1:=Int.tdiv_eq_ediv_of_nonneg h3.1
  have q0:0≤u / y1:=Int.ediv_nonneg h3.1 (by omega)
  have q1:u / y1≤u:=Int.ediv_le_self _ h3.1
  have m1:=Int.mul_ediv_add_emod u y1
  have m2:=Int.emod_nonneg u (b:=y1) (by omega)
  have m3:=Int.emod_lt_of_pos u (b:=y1) (by omega)
  rw [e,c6 q0 (by omega)]
  rw [Int.mul_comm y1] at m1
  rw [c6 (n:=u / y1 * y1) (Int.mul_nonneg q0 (by omega)) (by omega),c6 (by omega) (by omega)]
  have:=Int.mul_nonneg q0 h2.1
  refine ⟨⟨q0,by omega⟩,by omega,⟨by omega,by omega⟩,by omega⟩
theorem QW {y1 y0 u d q r:Int} (h:HY y1 y0 u d) (hi:HI y1 y0 u d q r):(decide (q≥4294967296)||decide (IntKind.u64.wrap (q * y0) > IntKind.u64.wrap (IntKind.u64.wrap (4294967296 * r)+d)))=decide (q≥4294967296∨q * y0 > 4294967296 * r+d):=by
  obtain ⟨h1,h2,h3,h4⟩:=h
  obtain ⟨i1,i2,i3,i4⟩:=hi
  rw [c6 (n:=4294967296 * r) (by omega) (by omega),c6 (n:=4294967296 * r+d) (by omega) (by omega)]
  by_cases c:q≥4294967296
  · simp [c]
  · have a:q * y0≤4294967295 * y0:=Int.mul_le_mul_of_nonneg_right (by omega) h2.1
    rw [c6 (n:=q * y0) (Int.mul_nonneg i1.1 h2.1) (by omega)]
    simp [c]
theorem BE {y1 y0 u d q r:Int} (h:HY y1 y0 u d) (hi:HI y1 y0 u d q r) (hc:(decide (q≥4294967296)||decide (IntKind.u64.wrap (q * y0) > IntKind.u64.wrap (IntKind.u64.wrap (4294967296 * r)+d)))=true) :
    (IntKind.u64.wrap (q - 1)).toNat < q.toNat∧(IntKind.u64.wrap (r+y1)≥4294967296→HQ y1 y0 u d (IntKind.u64.wrap (q - 1)))∧(IntKind.u64.wrap (r+y1) < 4294967296→HI y1 y0 u d (IntKind.u64.wrap (q - 1)) (IntKind.u64.wrap (r+y1))):=by
  rw [QW h hi,decide_eq_true_eq] at hc
  obtain ⟨h1,h2,h3,h4⟩:=h
  obtain ⟨i1,i2,i3,i4⟩:=hi
  have hy:u * 4294967296+d < 4294967296 * (q * y1)+q * y0:=by
    rcases hc with c | c
    · have a:4294967296 * y1≤q * y1:=Int.mul_le_mul_of_nonneg_right c (by omega)
      have b:4294967296 * y0≤q * y0:=Int.mul_le_mul_of_nonneg_right c h2.1
      omega
    · omega
  have hq:1≤q:=by
    rcases Int.lt_or_le q 1 with c | c
    · obtain rfl:q=0:=by omega
      simp only [Int.zero_mul] at hy i2
      omega
    · exact c
  have e1:(q - 1) * y1=q * y1 - y1:=by rw [Int.sub_mul,Int.one_mul]
  have e0:(q - 1) * y0=q * y0 - y0:=by rw [Int.sub_mul,Int.one_mul]
  rw [c6 (n:=q - 1) (by omega) (by omega),c6 (n:=r+y1) (by omega) (by omega)]
  refine ⟨by omega,fun hr=>?_,fun hr=>?_⟩
  · have hB:q - 1 < 4294967296:=by
      rcases Int.lt_or_le (q - 1) 4294967296 with c | c
      · exact c
      · have a:4294967296 * y1≤(q - 1) * y1:=Int.mul_le_mul_of_nonneg_right c (by omega)
        omega
    have a:(q - 1) * y0≤4294967295 * y0:=Int.mul_le_mul_of_nonneg_right (by omega) h2.1
    refine ⟨⟨by omega,hB⟩,?_,?_⟩
    · rw [e1]; omega
    · rw [e1,e0]; omega
  · refine ⟨⟨by omega,by omega⟩,by rw [e1]; omega,⟨by omega,hr⟩,by rw [e1,e0]; omega⟩
theorem BF {y1 y0 u d q r:Int} (h:HY y1 y0 u d) (hi:HI y1 y0 u d q r) (hc:(decide (q≥4294967296)||decide (IntKind.u64.wrap (q * y0) > IntKind.u64.wrap (IntKind.u64.wrap (4294967296 * r)+d)))=false):HQ y1 y0 u d q:=by
  rw [QW h hi,decide_eq_false_iff_not] at hc
  obtain ⟨i1,i2,i3,i4⟩:=hi
  exact ⟨by omega,by omega,i4⟩
/-- YN is left -/
theorem xP {y1 y0 u d q:Int} (h:HY y1 y0 u d) (hq:HQ y1 y0 u d q):IntKind.u64.wrap (IntKind.u64.wrap (IntKind.u64.wrap (u * 4294967296)+d) - IntKind.u64.wrap (q * (y1 * 4294967296+y0)))=u * 4294967296+d - q * (y1 * 4294967296+y0)∧0≤u * 4294967296+d - q * (y1 * 4294967296+y0)∧u * 4294967296+d - q * (y1 * 4294967296+y0) < y1 * 4294967296+y0:=by
  obtain ⟨h1,h2,h3,h4⟩:=h
  obtain ⟨i1,i2,i3⟩:=hq
  have e:q * (y1 * 4294967296+y0)=4294967296 * (q * y1)+q * y0:=by rw [Int.mul_add,← Int.mul_assoc,Int.mul_comm (q * y1)]
  refine ⟨?_,by omega,by omega⟩
  simp only [MN]
  omega
theorem aeM {k:Nat} {q b:Int} (hq:0≤q) (hb:0≤b) (Ez:b < 2 ^ k) (ha:q * 2 ^ k+b < 18446744073709551616):VR .u64 (q * 2 ^ k) b=q * 2 ^ k+b:=by
  obtain ⟨q,rfl⟩:=Int.eq_ofNat_of_zero_le hq
  obtain ⟨b,rfl⟩:=Int.eq_ofNat_of_zero_le hb
  have e:((q:Int) * 2 ^ k)=((q * 2 ^ k:Nat):Int):=by simp
  have Wk:b < 2 ^ k:=by
    have e2:((2:Int) ^ k)=((2 ^ k:Nat):Int):=by simp
    rw [e2] at Ez
    exact_mod_cast Ez
  rw [e] at ha ⊢
  unfold VR
  have dK:q * 2 ^ k+b < 18446744073709551616:=by omega
  have h1:(BitVec.ofInt IntKind.u64.bits ((q * 2 ^ k:Nat):Int) ||| BitVec.ofInt IntKind.u64.bits ((b:Nat):Int)).toNat=q * 2 ^ k+b:=by
    rw [BitVec.toNat_or,BitVec.ofInt_natCast,BitVec.ofInt_natCast,BitVec.toNat_ofNat,BitVec.toNat_ofNat]
    have hb:IntKind.u64.bits=64:=rfl
    rw [hb,Nat.mod_eq_of_lt (by omega),Nat.mod_eq_of_lt (by omega),← Nat.shiftLeft_eq,← Nat.shiftLeft_add_eq_or_of_lt Wk,Nat.shiftLeft_eq]
  rw [h1,c6 (by omega) (by omega)]
  omega
theorem LI {a:Int} (h0:0≤a) (h1:a < 18446744073709551616):aD .u64 a 4294967295=a % 4294967296:=by
  obtain ⟨a,rfl⟩:=Int.eq_ofNat_of_zero_le h0
  unfold aD
  have h2:(BitVec.ofInt IntKind.u64.bits ((a:Nat):Int) &&& BitVec.ofInt IntKind.u64.bits 4294967295).toNat=a % 4294967296:=by
    have e:(4294967295:Int)=((4294967295:Nat):Int):=rfl
    rw [e,BitVec.toNat_and,BitVec.ofInt_natCast,BitVec.ofInt_natCast,BitVec.toNat_ofNat,BitVec.toNat_ofNat]
    have hb:IntKind.u64.bits=64:=rfl
    rw [hb,Nat.mod_eq_of_lt (by omega),Nat.mod_eq_of_lt (by omega)]
    exact Nat.and_two_pow_sub_one_eq_mod a 32
  rw [h2,c6 (by omega) (by omega)]
  omega
/-- Jw parts of a U2,made adP -/
theorem QX {hi lo y s:Int} (hy:0≤hi∧hi < y∧y < 18446744073709551616∧0≤lo∧lo < 18446744073709551616) (hs:0≤s∧s≤63∧9223372036854775808≤y * 2 ^ s.toNat∧y * 2 ^ s.toNat < 18446744073709551616) :
    ∃ U L:Int,VR .u64 (cF .u64 hi (IntKind.u64.wrap s)) (a8 .u64 lo (IntKind.u64.wrap ((64:Int) - IntKind.u64.wrap s)))=U∧cF .u64 lo (IntKind.u64.wrap s)=L∧cF .u64 y (IntKind.u64.wrap s)=y * 2 ^ s.toNat ∧
      (0≤L∧L < 18446744073709551616)∧(0≤U∧U < y * 2 ^ s.toNat)∧(hi * 18446744073709551616+lo) * 2 ^ s.toNat=U * 18446744073709551616+L:=by
  obtain ⟨h1,h2,h3,h4,h5⟩:=hy
  obtain ⟨s1,s2,s3,s4⟩:=hs
  have ew:IntKind.u64.wrap s=s:=c6 s1 (by omega)
  have ew2:IntKind.u64.wrap (64 - s)=64 - s:=c6 (by omega) (by omega)
  rw [ew,ew2,WE (by omega),WE (by omega),WE (by omega),G4 .u64 (b:=64 - s) (by show 0≤64 - s∧64 - s≤64; omega)]
  generalize hp:(2:Int) ^ s.toNat=p at *
  have hP:(18446744073709551616:Int)=2 ^ (64 - s).toNat * p:=by rw [← hp,← Int.pow_add,show (64 - s).toNat+s.toNat=64 by omega]; rfl
  generalize hq:(2:Int) ^ (64 - s).toNat=P at *
  have p0:0 < p:=by rw [← hp]; exact Int.pow_pos (by omega)
  have P0:0 < P:=by rw [← hq]; exact Int.pow_pos (by omega)
  have hip:hi * p≤(y - 1) * p:=Int.mul_le_mul_of_nonneg_right (by omega) (by omega)
  have ail:0≤hi * p:=Int.mul_nonneg h1 (by omega)
  have e1:(y - 1) * p=y * p - p:=by rw [Int.sub_mul,Int.one_mul]
  have b0:0≤lo / P:=Int.ediv_nonneg h4 (by omega)
  have b1:lo / P < p:=by
    rw [Int.ediv_lt_iff_lt_mul P0,Int.mul_comm]
    omega
  have eh:hi * p % 18446744073709551616=hi * p:=Int.emod_eq_of_lt ail (by omega)
  have ey:y * p % 18446744073709551616=y * p:=Int.emod_eq_of_lt (by omega) s4
  have el:lo * p / 18446744073709551616=lo / P:=by rw [hP]; exact Int.mul_ediv_mul_of_pos_left _ _ p0
  have hor:VR .u64 (hi * p) (lo / P)=hi * p+lo / P:=by
    rw [← hp]
    exact aeM h1 b0 (by rw [hp]; exact b1) (by rw [hp]; omega)
  refine ⟨hi * p+lo / P,lo * p % 18446744073709551616,by rw [eh]; exact hor,rfl,ey,⟨by omega,by omega⟩,⟨by omega,by omega⟩,?_⟩
  have m:=Int.mul_ediv_add_emod (lo * p) 18446744073709551616
  rw [el] at m
  have e2:(hi * 18446744073709551616+lo) * p=hi * p * 18446744073709551616+lo * p:=by rw [Int.add_mul,Int.mul_right_comm]
  rw [e2]
  omega
/-- Jw whole U2 out of its aeL -/
theorem ZE {N y p U L q1 q0:Int} (hy:0 < y) (hp:0 < p) (hY:9223372036854775808≤y * p∧y * p < 18446744073709551616) (hL:0≤L∧L < 18446744073709551616) (hU:0≤U∧U < y * p) (hN:N * p=U * 18446744073709551616+L)
    (h1:HQ (y * p / 4294967296) (y * p % 4294967296) U (L / 4294967296) q1)
    (h0:HQ (y * p / 4294967296) (y * p % 4294967296) (U * 4294967296+L / 4294967296 - q1 * (y * p)) (L % 4294967296) q0) :
    IntKind.u64.wrap (IntKind.u64.wrap (q1 * 4294967296)+q0)=N / y ∧
      ((U * 4294967296+L / 4294967296 - q1 * (y * p)) * 4294967296+L % 4294967296 - q0 * (y * p)) / p=N % y:=by
  have eY:y * p / 4294967296 * 4294967296+y * p % 4294967296=y * p:=by omega
  have Yj:HY (y * p / 4294967296) (y * p % 4294967296) U (L / 4294967296):=⟨⟨by omega,by omega⟩,⟨by omega,by omega⟩,⟨by omega,by omega⟩,by omega,by omega⟩
  have r1:=xP Yj h1
  rw [eY] at r1
  have V4:HY (y * p / 4294967296) (y * p % 4294967296) (U * 4294967296+L / 4294967296 - q1 * (y * p)) (L % 4294967296):=⟨⟨by omega,by omega⟩,⟨by omega,by omega⟩,⟨by omega,by omega⟩,by omega,by omega⟩
  have r0:=xP V4 h0
  rw [eY] at r0
  have i1:=h1.1
  have i0:=h0.1
  rw [c6 (n:=q1 * 4294967296) (by omega) (by omega),c6 (by omega) (by omega)]
  generalize hR:(U * 4294967296+L / 4294967296 - q1 * (y * p)) * 4294967296+L % 4294967296 - q0 * (y * p)=R at *
  have e:(q1 * 4294967296+q0) * (y * p)=q1 * (y * p) * 4294967296+q0 * (y * p):=by rw [Int.add_mul,Int.mul_right_comm]
  have hq:N * p=(q1 * 4294967296+q0) * (y * p)+R:=by rw [e]; omega
  have hR2:R=(N - (q1 * 4294967296+q0) * y) * p:=by rw [Int.sub_mul,Int.mul_assoc]; omega
  have JB:0≤N - (q1 * 4294967296+q0) * y:=by
    rcases Int.lt_or_le (N - (q1 * 4294967296+q0) * y) 0 with c | c
    · have:=Int.mul_neg_of_neg_of_pos c hp
      omega
    · exact c
  have dK:N - (q1 * 4294967296+q0) * y < y:=by
    rcases Int.lt_or_le (N - (q1 * 4294967296+q0) * y) y with c | c
    · exact c
    · have:=Int.mul_le_mul_of_nonneg_right c (Int.le_of_lt hp)
      omega
  have hd:N / y=q1 * 4294967296+q0:=by
    rw [Int.ediv_eq_iff_of_pos hy]
    constructor
    · omega
    · omega
  refine ⟨hd.symm,?_⟩
  rw [hR2,Int.mul_ediv_cancel _ (by omega),Int.emod_def,hd,Int.mul_comm y]
def lB (hi:Int) (lo:Int) (y:Int):Sk (Int × Int) :=
 .bind false (fun _=>True)
 (.br (y == 0)
 (.dead default)
 (.fin (.inr ())))
 (fun (_:Unit)=>⟨[],[]⟩) fun _ =>
 .bind false (fun _=>True)
 (.br (decide (y≤hi))
 (.dead default)
 (.fin (.inr ())))
 (fun (_:Unit)=>⟨[],[]⟩) fun _ =>
 .br (hi == 0)
 (.r 6 (.al (.p (y≠0)) (.p (y≠0))) fun _ =>
 .fin (IntKind.u64.wrap (lo.tdiv y),lo.tmod y))
 (.r 7 ((lN y).c) fun x3 =>
 .r 8 (.p (0≤(IntKind.u64.wrap (x3)))) fun _ =>
 .r 9 (.p (0≤(32:Int))) fun _ =>
 .r 11 (.al (.p (0≤(IntKind.u64.wrap (x3)))) (.p (0≤(IntKind.u64.wrap ((64:Int) - (IntKind.u64.wrap (x3))))))) fun _ =>
 .r 12 (.p (0≤(IntKind.u64.wrap (x3)))) fun _ =>
 .r 13 (.p (0≤(32:Int))) fun _ =>
 .r 15 (.p ((a8 .u64 (cF .u64 y (IntKind.u64.wrap (x3))) 32)≠0)) fun _ =>
 .bind true (fun b4=>HQ (a8 .u64 (cF .u64 y (IntKind.u64.wrap (x3))) 32) (aD .u64 (cF .u64 y (IntKind.u64.wrap (x3))) 4294967295) (VR .u64 (cF .u64 hi (IntKind.u64.wrap (x3))) (a8 .u64 lo (IntKind.u64.wrap ((64:Int) - (IntKind.u64.wrap (x3)))))) (a8 .u64 (cF .u64 lo (IntKind.u64.wrap (x3))) 32) b4.1)
 (.loop (default:Sum (Int × Int) (Int × Int)) (fun i5=>HI (a8 .u64 (cF .u64 y (IntKind.u64.wrap (x3))) 32) (aD .u64 (cF .u64 y (IntKind.u64.wrap (x3))) 4294967295) (VR .u64 (cF .u64 hi (IntKind.u64.wrap (x3))) (a8 .u64 lo (IntKind.u64.wrap ((64:Int) - (IntKind.u64.wrap (x3)))))) (a8 .u64 (cF .u64 lo (IntKind.u64.wrap (x3))) 32) i5.1 i5.2) (fun i5=>i5.1.toNat) ((IntKind.u64.wrap ((VR .u64 (cF .u64 hi (IntKind.u64.wrap (x3))) (a8 .u64 lo (IntKind.u64.wrap ((64:Int) - (IntKind.u64.wrap (x3)))))).tdiv (a8 .u64 (cF .u64 y (IntKind.u64.wrap (x3))) 32)),IntKind.u64.wrap ((VR .u64 (cF .u64 hi (IntKind.u64.wrap (x3))) (a8 .u64 lo (IntKind.u64.wrap ((64:Int) - (IntKind.u64.wrap (x3)))))) - (IntKind.u64.wrap ((IntKind.u64.wrap ((VR .u64 (cF .u64 hi (IntKind.u64.wrap (x3))) (a8 .u64 lo (IntKind.u64.wrap ((64:Int) - (IntKind.u64.wrap (x3)))))).tdiv (a8 .u64 (cF .u64 y (IntKind.u64.wrap (x3))) 32))) * (a8 .u64 (cF .u64 y (IntKind.u64.wrap (x3))) 32))))):Int × Int)
 (fun (i5:Int × Int)=>⟨[(15,.d (.v (.int .u64 i5.1))),(16,.d (.v (.int .u64 i5.2)))],[]⟩) fun i5 =>
 .br ((decide (i5.1≥4294967296))||(decide ((IntKind.u64.wrap (i5.1 * (aD .u64 (cF .u64 y (IntKind.u64.wrap (x3))) 4294967295))) > (IntKind.u64.wrap ((IntKind.u64.wrap ((4294967296:Int) * i5.2))+(a8 .u64 (cF .u64 lo (IntKind.u64.wrap (x3))) 32))))))
 (.br (decide ((IntKind.u64.wrap (i5.2+(a8 .u64 (cF .u64 y (IntKind.u64.wrap (x3))) 32)))≥4294967296))
 (.fin (.inl (.inr (IntKind.u64.wrap (i5.1 - 1),IntKind.u64.wrap (i5.2+(a8 .u64 (cF .u64 y (IntKind.u64.wrap (x3))) 32))))))
 (.fin (.inr (IntKind.u64.wrap (i5.1 - 1),IntKind.u64.wrap (i5.2+(a8 .u64 (cF .u64 y (IntKind.u64.wrap (x3))) 32))))))
 (.fin (.inl (.inr (i5.1,i5.2)))))
 (fun (b4:Int × Int)=>⟨[(15,.d (.v (.int .u64 b4.1))),(16,.d (.v (.int .u64 b4.2)))],[]⟩) fun b4 =>
 .r 22 (.p ((a8 .u64 (cF .u64 y (IntKind.u64.wrap (x3))) 32)≠0)) fun _ =>
 .bind true (fun b6=>HQ (a8 .u64 (cF .u64 y (IntKind.u64.wrap (x3))) 32) (aD .u64 (cF .u64 y (IntKind.u64.wrap (x3))) 4294967295) (IntKind.u64.wrap ((IntKind.u64.wrap ((IntKind.u64.wrap ((VR .u64 (cF .u64 hi (IntKind.u64.wrap (x3))) (a8 .u64 lo (IntKind.u64.wrap ((64:Int) - (IntKind.u64.wrap (x3)))))) * 4294967296))+(a8 .u64 (cF .u64 lo (IntKind.u64.wrap (x3))) 32))) - (IntKind.u64.wrap (b4.1 * (cF .u64 y (IntKind.u64.wrap (x3))))))) (aD .u64 (cF .u64 lo (IntKind.u64.wrap (x3))) 4294967295) b6)
 (.loop (default:Sum (Int × Int) (Int)) (fun i7=>HI (a8 .u64 (cF .u64 y (IntKind.u64.wrap (x3))) 32) (aD .u64 (cF .u64 y (IntKind.u64.wrap (x3))) 4294967295) (IntKind.u64.wrap ((IntKind.u64.wrap ((IntKind.u64.wrap ((VR .u64 (cF .u64 hi (IntKind.u64.wrap (x3))) (a8 .u64 lo (IntKind.u64.wrap ((64:Int) - (IntKind.u64.wrap (x3)))))) * 4294967296))+(a8 .u64 (cF .u64 lo (IntKind.u64.wrap (x3))) 32))) - (IntKind.u64.wrap (b4.1 * (cF .u64 y (IntKind.u64.wrap (x3))))))) (aD .u64 (cF .u64 lo (IntKind.u64.wrap (x3))) 4294967295) i7.2 i7.1) (fun i7=>i7.2.toNat) ((IntKind.u64.wrap ((IntKind.u64.wrap ((IntKind.u64.wrap ((IntKind.u64.wrap ((VR .u64 (cF .u64 hi (IntKind.u64.wrap (x3))) (a8 .u64 lo (IntKind.u64.wrap ((64:Int) - (IntKind.u64.wrap (x3)))))) * 4294967296))+(a8 .u64 (cF .u64 lo (IntKind.u64.wrap (x3))) 32))) - (IntKind.u64.wrap (b4.1 * (cF .u64 y (IntKind.u64.wrap (x3))))))) - (IntKind.u64.wrap ((IntKind.u64.wrap ((IntKind.u64.wrap ((IntKind.u64.wrap ((IntKind.u64.wrap ((VR .u64 (cF .u64 hi (IntKind.u64.wrap (x3))) (a8 .u64 lo (IntKind.u64.wrap ((64:Int) - (IntKind.u64.wrap (x3)))))) * 4294967296))+(a8 .u64 (cF .u64 lo (IntKind.u64.wrap (x3))) 32))) - (IntKind.u64.wrap (b4.1 * (cF .u64 y (IntKind.u64.wrap (x3))))))).tdiv (a8 .u64 (cF .u64 y (IntKind.u64.wrap (x3))) 32))) * (a8 .u64 (cF .u64 y (IntKind.u64.wrap (x3))) 32)))),IntKind.u64.wrap ((IntKind.u64.wrap ((IntKind.u64.wrap ((IntKind.u64.wrap ((VR .u64 (cF .u64 hi (IntKind.u64.wrap (x3))) (a8 .u64 lo (IntKind.u64.wrap ((64:Int) - (IntKind.u64.wrap (x3)))))) * 4294967296))+(a8 .u64 (cF .u64 lo (IntKind.u64.wrap (x3))) 32))) - (IntKind.u64.wrap (b4.1 * (cF .u64 y (IntKind.u64.wrap (x3))))))).tdiv (a8 .u64 (cF .u64 y (IntKind.u64.wrap (x3))) 32))):Int × Int)
 (fun (i7:Int × Int)=>⟨[(16,.d (.v (.int .u64 i7.1))),(18,.d (.v (.int .u64 i7.2)))],[]⟩) fun i7 =>
 .br ((decide (i7.2≥4294967296))||(decide ((IntKind.u64.wrap (i7.2 * (aD .u64 (cF .u64 y (IntKind.u64.wrap (x3))) 4294967295))) > (IntKind.u64.wrap ((IntKind.u64.wrap ((4294967296:Int) * i7.1))+(aD .u64 (cF .u64 lo (IntKind.u64.wrap (x3))) 4294967295))))))
 (.br (decide ((IntKind.u64.wrap (i7.1+(a8 .u64 (cF .u64 y (IntKind.u64.wrap (x3))) 32)))≥4294967296))
 (.fin (.inl (.inr (IntKind.u64.wrap (i7.2 - 1)))))
 (.fin (.inr (IntKind.u64.wrap (i7.1+(a8 .u64 (cF .u64 y (IntKind.u64.wrap (x3))) 32)),IntKind.u64.wrap (i7.2 - 1)))))
 (.fin (.inl (.inr i7.2))))
 (fun (b6:Int)=>⟨[(18,.d (.v (.int .u64 b6)))],[]⟩) fun b6 =>
 .r 28 (.p (0≤(IntKind.u64.wrap (x3)))) fun _ =>
 .fin (IntKind.u64.wrap ((IntKind.u64.wrap (b4.1 * 4294967296))+b6),a8 .u64 (IntKind.u64.wrap ((IntKind.u64.wrap ((IntKind.u64.wrap ((IntKind.u64.wrap ((IntKind.u64.wrap ((IntKind.u64.wrap ((VR .u64 (cF .u64 hi (IntKind.u64.wrap (x3))) (a8 .u64 lo (IntKind.u64.wrap ((64:Int) - (IntKind.u64.wrap (x3)))))) * 4294967296))+(a8 .u64 (cF .u64 lo (IntKind.u64.wrap (x3))) 32))) - (IntKind.u64.wrap (b4.1 * (cF .u64 y (IntKind.u64.wrap (x3))))))) * 4294967296))+(aD .u64 (cF .u64 lo (IntKind.u64.wrap (x3))) 4294967295))) - (IntKind.u64.wrap (b6 * (cF .u64 y (IntKind.u64.wrap (x3))))))) (IntKind.u64.wrap (x3))))
def NC hi lo y:=(lB hi lo y).val
theorem ND (hi:Int) (lo:Int) (y:Int) (hP:0≤hi∧hi < y∧y < 18446744073709551616∧0≤lo∧lo < 18446744073709551616):(lB hi lo y).cC (fun (x:Int × Int)=>x.1=(hi * 18446744073709551616+lo) / y∧x.2=(hi * 18446744073709551616+lo) % y):=by
  refine Sk.aP _ ?_
  unfold lB
  simp only [Sk.ct,Sk.aA,reduceCtorEq,ON,kk,kp,lN,maxLen]
  refine ⟨fun h=>by simp only [LN] at h; omega,fun _ _=>⟨fun h=>by simp only [LN] at h; omega,fun _ _=>⟨fun h0 _=>?_,fun _ x _ hx=>?_⟩⟩⟩
  · simp only [LN] at h0
    subst h0
    have e:=Int.tdiv_eq_ediv_of_nonneg (a:=lo) (b:=y) hP.2.2.2.1
    have e2:=Int.tmod_eq_emod_of_nonneg (a:=lo) (b:=y) hP.2.2.2.1
    have q0:0≤lo / y:=Int.ediv_nonneg hP.2.2.2.1 (by omega)
    have q1:lo / y≤lo:=Int.ediv_le_self _ hP.2.2.2.1
    rw [e,e2,c6 q0 (by omega)]
    simp
  · have hx:=hx ⟨by omega,by omega⟩
    obtain ⟨U,L,eU,eL,eY,hL,hU,hN⟩:=QX hP hx
    simp only [eU,eL,eY,Yl]
    have hp:(0:Int) < 2 ^ x.toNat:=Int.pow_pos (by omega)
    have es:∀ a:Int,a8 .u64 a (IntKind.u64.wrap x)=a / 2 ^ x.toNat:=fun a=>by
      rw [c6 hx.1 (by omega)]
      exact G4 .u64 (b:=x) (by show 0≤x∧x≤64; omega)
    simp only [es]
    have hw:=fun q1 q0=>ZE (y:=y) (q1:=q1) (q0:=q0) (by omega) hp hx.2.2 hL hU hN
    generalize hYY:y * 2 ^ x.toNat=Y at *
    rw [LI (by omega) hx.2.2.2,LI hL.1 hL.2]
    have eY2:Y / 4294967296 * 4294967296+Y % 4294967296=Y:=by omega
    have Yj:HY (Y / 4294967296) (Y % 4294967296) U (L / 4294967296):=⟨⟨by omega,by omega⟩,⟨by omega,by omega⟩,⟨by omega,by omega⟩,by omega,by omega⟩
    intro _ _ _ _ _ _
    refine ⟨⟨BD Yj,fun i hi=>⟨fun hc=>?_,fun hc=>BF Yj hi hc⟩⟩,fun b hb=>?_⟩
    · have h:=BE Yj hi hc
      exact ⟨fun h2=>h.2.1 (of_decide_eq_true h2),fun h2=>⟨h.2.2 (Int.not_le.1 (of_decide_eq_false h2)),h.1⟩⟩
    · have r1:=xP Yj hb
      rw [eY2] at r1
      rw [r1.1]
      have V4:HY (Y / 4294967296) (Y % 4294967296) (U * 4294967296+L / 4294967296 - b.1 * Y) (L % 4294967296):=⟨⟨by omega,by omega⟩,⟨by omega,by omega⟩,⟨by omega,by omega⟩,by omega,by omega⟩
      intro _
      refine ⟨⟨BD V4,fun i hi=>⟨fun hc=>?_,fun hc=>BF V4 hi hc⟩⟩,fun q hq=>?_⟩
      · have h:=BE V4 hi hc
        exact ⟨fun h2=>h.2.1 (of_decide_eq_true h2),fun h2=>⟨h.2.2 (Int.not_le.1 (of_decide_eq_false h2)),h.1⟩⟩
      · intro _
        have r0:=xP V4 hq
        rw [eY2] at r0
        rw [r0.1]
        exact hw _ _ hb hq

theorem Kq (hi:Int) (lo:Int) (y:Int):(fun (x:Int × Int)=>(0≤hi∧hi < y∧y < 18446744073709551616∧0≤lo∧lo < 18446744073709551616)→(x.1=(hi * 18446744073709551616+lo) / y∧x.2=(hi * 18446744073709551616+lo) % y)) (NC hi lo y):=fun hP=>Sk.cI _ (ND hi lo y hP)
theorem PQ (hi:Int) (lo:Int) (y:Int) (hy:0≤hi∧hi < y∧y < 18446744073709551616∧0≤lo∧lo < 18446744073709551616):(lB hi lo y).a6 (fun _=>True):=by
  refine Sk.aG _ ?_
  unfold lB
  simp only [Sk.gL,Sk.aA,reduceCtorEq,ON,kk,kp,lN,maxLen]
  refine ⟨fun h=>by simp only [LN] at h; omega,fun _ _=>⟨fun h=>by simp only [LN] at h; omega,fun _ _=>⟨fun _=>by omega,fun _=>⟨by omega,fun x _ hx=>?_⟩⟩⟩⟩
  have hx:=hx ⟨by omega,by omega⟩
  obtain ⟨U,L,eU,eL,eY,hL,hU,hN⟩:=QX hy hx
  simp only [eU,eL,eY,Yl]
  have hp:(0:Int) < 2 ^ x.toNat:=Int.pow_pos (by omega)
  generalize hYY:y * 2 ^ x.toNat=Y at *
  rw [LI (by omega) hx.2.2.2,LI hL.1 hL.2]
  have eY2:Y / 4294967296 * 4294967296+Y % 4294967296=Y:=by omega
  have hn:Y / 4294967296≠0:=by omega
  have Yj:HY (Y / 4294967296) (Y % 4294967296) U (L / 4294967296):=⟨⟨by omega,by omega⟩,⟨by omega,by omega⟩,⟨by omega,by omega⟩,by omega,by omega⟩
  refine ⟨(jO _).1,fun _=>⟨by decide,fun _=>⟨⟨(jO _).1,(jO _).1⟩,fun _=>⟨(jO _).1,fun _=>⟨by decide,fun _=>⟨hn,fun _=>⟨⟨BD Yj,fun i hi=>⟨fun hc=>?_,fun hc=>BF Yj hi hc⟩⟩,fun b hb=>⟨hn,fun _=>?_⟩⟩⟩⟩⟩⟩⟩⟩
  · have h:=BE Yj hi hc
    exact ⟨fun h2=>h.2.1 (of_decide_eq_true h2),fun h2=>⟨h.2.2 (Int.not_le.1 (of_decide_eq_false h2)),h.1⟩⟩
  · have r1:=xP Yj hb
    rw [eY2] at r1
    rw [r1.1]
    have V4:HY (Y / 4294967296) (Y % 4294967296) (U * 4294967296+L / 4294967296 - b.1 * Y) (L % 4294967296):=⟨⟨by omega,by omega⟩,⟨by omega,by omega⟩,⟨by omega,by omega⟩,by omega,by omega⟩
    refine ⟨⟨BD V4,fun i hi=>⟨fun hc=>?_,fun hc=>BF V4 hi hc⟩⟩,fun q hq=>(jO _).1⟩
    have h:=BE V4 hi hc
    exact ⟨fun h2=>h.2.1 (of_decide_eq_true h2),fun h2=>⟨h.2.2 (Int.not_le.1 (of_decide_eq_false h2)),h.1⟩⟩

def nf hi lo y:=kk tok mixed Tryz.func200 [.d (.v (.int .u64 hi)),.d (.v (.int .u64 lo)),.d (.v (.int .u64 y))] (fun x=>.fj [.d (.v (.int .u64 x.1)),.d (.v (.int .u64 x.2))]) true (lB hi lo y) (NC hi lo y) (PQ hi lo y) (fun (x:Int × Int)=>(0≤hi∧hi < y∧y < 18446744073709551616∧0≤lo∧lo < 18446744073709551616)→(x.1=(hi * 18446744073709551616+lo) / y∧x.2=(hi * 18446744073709551616+lo) % y)) (Kq hi lo y)
def lC (a:Int) (b:Int) (c_:Int):Sk (Int × Int × Bool) :=
 .r 1 ((jl (IntKind.u64.wrap (a)) (IntKind.u64.wrap (b))).c) fun x1 =>
 .br (decide (x1.1≥(IntKind.u64.wrap (c_))))
 (.fin (0,0,false))
 (.r 4 ((nf x1.1 x1.2 (IntKind.u64.wrap (c_))).c) fun x2 =>
 .br (decide (x2.1 > 1099511627776))
 (.fin (0,0,false))
 (.fin (au (x2.1),au (x2.2),true)))
def NF a b c_:=(lC a b c_).val
theorem NG (a:Int) (b:Int) (c_:Int) (hP:(0≤a∧a≤9223372036854775807)∧(0≤b∧b≤9223372036854775807)∧0 < c_∧c_≤9223372036854775807):(lC a b c_).cC (fun (x:Int × Int × Bool)=>x.2.2=true→(0≤x.1∧x.1≤1099511627776)∧x.1=a * b / c_∧x.2.1=a * b % c_):=by
  refine Sk.aP _ ?_
  unfold lC
  simp only [Sk.ct,Sk.aA,reduceCtorEq,ON,kk,kp,nf,jl,maxLen]
  obtain ⟨ha,hb,O9,CW⟩:=hP
  rw [c6 (n:=a) ha.1 (by omega),c6 (n:=b) hb.1 (by omega),c6 (n:=c_) (by omega) (by omega)]
  intro x _ hx
  obtain ⟨x1,x2,x3⟩:=hx ⟨⟨ha.1,by omega⟩,hb.1,by omega⟩
  intro hc y _ hy hc3
  simp only [LN] at hc hc3
  have hy:=hy ⟨x1.1,by omega,by omega,x2.1,x2.2⟩
  rw [x3] at hy
  have q0:0≤a * b / c_:=Int.ediv_nonneg (Int.mul_nonneg ha.1 hb.1) (by omega)
  have m0:=Int.emod_nonneg (a * b) (b:=c_) (by omega)
  have m1:=Int.emod_lt_of_pos (a * b) (b:=c_) O9
  rw [ar (n:=y.1) (by omega) (by omega),ar (n:=y.2) (by omega) (by omega)]
  omega

theorem Kr (a:Int) (b:Int) (c_:Int):(fun (x:Int × Int × Bool)=>((0≤a∧a≤9223372036854775807)∧(0≤b∧b≤9223372036854775807)∧0 < c_∧c_≤9223372036854775807)→(x.2.2=true→(0≤x.1∧x.1≤1099511627776)∧x.1=a * b / c_∧x.2.1=a * b % c_)) (NF a b c_):=fun hP=>Sk.cI _ (NG a b c_ hP)
theorem PR (a:Int) (b:Int) (c_:Int):(lC a b c_).a6 (fun _=>True):=by
  refine Sk.aG _ ?_
  unfold lC
  simp only [Sk.gL,Sk.aA,reduceCtorEq,ON,kk,kp,nf,jl,maxLen]
  intro x _ h hc
  simp only [LN] at hc
  obtain ⟨x1,x2,-⟩:=h ⟨jO _,jO _⟩
  exact ⟨x1.1,by omega,(jO _).2,x2.1,x2.2⟩

def yO a b c_:=kk tok mixed Tryz.func196 [iv a,iv b,iv c_] (fun x=>.fj [iv x.1,iv x.2.1,bv x.2.2]) true (lC a b c_) (NF a b c_) (u0 (PR a b c_)) (fun (x:Int × Int × Bool)=>((0≤a∧a≤9223372036854775807)∧(0≤b∧b≤9223372036854775807)∧0 < c_∧c_≤9223372036854775807)→(x.2.2=true→(0≤x.1∧x.1≤1099511627776)∧x.1=a * b / c_∧x.2.1=a * b % c_)) (Kr a b c_)
def jy (sum:Int) (gK:Int) (from_:Int) (cw:Int) (basis:Int):Sk (Int × Int) :=
 .r 1 (.dep ((ki sum 1099511627776).c) fun x1=>.dep (.wh (!x1) false ((ki gK 1000).c)) fun x2=>.dep (.wh ((!x1)||(!x2)) false ((ki from_ 100000).c)) fun x3=>.wh (((!x1)||(!x2))||(!x3)) false ((ki cw 100000).c)) fun p6 =>
 .br ((((((!p6.1)||(!p6.2.1))||(!p6.2.2.1))||(!p6.2.2.2))||(decide (cw < from_)))||((basis != 360)&&(basis != 365)))
 (.fin (0,1))
 (.r 3 ((yO sum (au (gK * (au (cw - from_)))) (au ((1000:Int) * basis))).c) fun x5 =>
 .br (!x5.2.2)
 (.fin (0,3))
 (.fin (x5.1,0)))
def NH sum gK from_ cw basis:=(jy sum gK from_ cw basis).val
theorem Dx (sum:Int) (gK:Int) (from_:Int) (cw:Int) (basis:Int):(jy sum gK from_ cw basis).cC (fun (x:Int × Int)=>0≤x.1∧x.1≤1099511627776):=by
  refine Sk.aP _ ?_
  unfold jy
  simp only [Sk.ct,Sk.aA,reduceCtorEq,ON,kk,kp,yO,ki,zA,forall_eq,maxLen]
  refine ⟨fun _=>⟨by decide,by decide⟩,fun hc h=>⟨fun _=>⟨by decide,by decide⟩,fun CW=>?_⟩⟩
  simp only [LN] at hc CW
  have hp0:0≤gK * (cw - from_):=Int.mul_nonneg (by omega) (by omega)
  have hp1:gK * (cw - from_)≤1000 * (cw - from_):=Int.mul_le_mul_of_nonneg_right (by omega) (by omega)
  rw [ar (n:=cw - from_) (by omega) (by omega),ar (n:=gK * (cw - from_)) (by omega) (by omega),ar (n:=1000 * basis) (by omega) (by omega)] at h CW ⊢
  exact (h ⟨by omega,by omega,by omega⟩ CW).1

theorem FD (sum:Int) (gK:Int) (from_:Int) (cw:Int) (basis:Int):(jy sum gK from_ cw basis).a6 (fun _=>True):=by
  unfold jy
  try simp only [yO,ki,zA]
  exact GD

def rh sum gK from_ cw basis:=kp tok mixed Tryz.func170 [iv sum,iv gK,iv from_,iv cw,iv basis] (fun x=>.fj [iv x.1,iv x.2]) true (NH sum gK from_ cw basis) (u0 (FD sum gK from_ cw basis)) (Dx sum gK from_ cw basis)
def iq (sum:Int) (pF:Int) (from_:Int) (cw:Int):Sk (Int) :=
 .r 1 ((rh sum pF from_ cw 360).c) fun x1 =>
 .br (x1.2 == 3)
 (.fin 1099511627776)
 (.fin x1.1)
def Ks sum pF from_ cw:=(iq sum pF from_ cw).val
theorem Ch (sum:Int) (pF:Int) (from_:Int) (cw:Int):(iq sum pF from_ cw).cC (fun (x:Int)=>0≤x∧x≤1099511627776):=by
  unfold iq
  try simp only [rh]
  exact ET

theorem Dy (sum:Int) (pF:Int) (from_:Int) (cw:Int):(iq sum pF from_ cw).a6 (fun _=>True):=by
  unfold iq
  try simp only [rh]
  exact od

def qi sum pF from_ cw:=kp tok mixed Tryz.func132 [iv sum,iv pF,iv from_,iv cw] (fun x=>iv x) true (Ks sum pF from_ cw) (u0 (Dy sum pF from_ cw)) (Ch sum pF from_ cw)
structure mb where
  num:Int
  den:Int
  deriving Inhabited
def mb.cells (c:mb):List D:=[dI c.num,dI c.den]
def mI (aI:List pk) (from_:Int) (cw:Int) (day:Int):Sk (Int) :=
 .bind true (fun b1=>b1 = -1∨(0≤b1∧b1 < (aI.length:Int)))
 (.loop (default:Sum (Int) (Int)) (fun i2=>i2.2≤aI.length∧(i2.1 = -1∨(0≤i2.1∧i2.1 < (aI.length:Int)))) (fun i2=>aI.length - i2.2) (((-1),0):Int × Nat)
 (fun (i2:Int × Nat)=>⟨[(9,iv i2.1),(14,iv ((i2.2:Nat):Int))],[]⟩) fun i2 =>
 .lt 0 0 i2.2 aI.length
 (.r 4 (.p (bN ((i2.2:Nat):Int) aI.length)) fun _ =>
 .r 5 (.wh (((((aI.getD i2.2 default).from_) == from_)&&(((aI.getD i2.2 default).cw) == cw))&&(decide (((aI.getD i2.2 default).since)≤day))) true (.wh (decide (i2.1 < 0)) false (.p (bN i2.1 aI.length)))) fun _ =>
 .br ((((((aI.getD i2.2 default).from_) == from_)&&(((aI.getD i2.2 default).cw) == cw))&&(decide (((aI.getD i2.2 default).since)≤day)))&&((decide (i2.1 < 0))||(decide (((aI.getD i2.2 default).since) > ((aI.getD i2.1.toNat default).since)))))
 (.r 7 .z fun _ =>
 .wi 14 (au (((i2.2:Nat):Int)+1)) ((i2.2+1:Nat):Int) <|
 .fin (.inr (((i2.2:Nat):Int),i2.2+1)))
 (.nx 7 14 i2.2 (i2.1,i2.2+1)))
 (.fin (.inl (.inr i2.1))))
 (fun (b1:Int)=>⟨[(9,iv b1)],[]⟩) fun b1 =>
 .fin b1
def U3 aI from_ cw day:=(mI aI from_ cw day).val
theorem Kt (aI:List pk) (from_:Int) (cw:Int) (day:Int):(mI aI from_ cw day).cC (fun (x:Int)=>x = -1∨(0≤x∧x < (aI.length:Int))):=by
  unfold mI
  exact ET

theorem NI (aI:List pk) (from_:Int) (cw:Int) (day:Int):(mI aI from_ cw day).a6 (fun _=>True):=by
  unfold mI
  exact nF

def rG aI from_ cw day:=kp tok mixed Tryz.func197 [lv pk.cells aI,iv from_,iv cw,iv day] (fun x=>iv x) true (U3 aI from_ cw day) (u0 (NI aI from_ cw day)) (Kt aI from_ cw day)
def qj (n:Int):Sk (Int) :=
 .br (decide (n < 0))
 (.fin (IntKind.u64.wrap (0 - (IntKind.u64.wrap (n)))))
 (.fin (IntKind.u64.wrap (n)))
def ZF n:=(qj n).val
theorem PS (n:Int):(qj n).cC (fun (x:Int)=>0≤x∧x < 18446744073709551616∧(0≤n→n≤9223372036854775807→x=n)):=by
  refine Sk.aP _ ?_
  unfold qj
  simp only [Sk.ct,Sk.aA,reduceCtorEq,ON,kk,kp,maxLen]
  refine ⟨fun hc=>⟨(jO _).1,(jO _).2,fun h=>?_⟩,fun _=>⟨(jO _).1,(jO _).2,fun h1 h2=>c6 h1 (by omega)⟩⟩
  simp only [LN] at hc
  omega

theorem Sr (n:Int):(qj n).a6 (fun _=>True):=by
  unfold qj
  exact od

def vS n:=kp tok mixed Tryz.func225 [iv n] (fun x=>.d (.v (.int .u64 x))) true (ZF n) (u0 (Sr n)) (PS n)
theorem aby {p q:Int} (hp:0≤p) (hq:0≤q):q.gcd (p.tmod q)=p.gcd q:=by
  obtain ⟨p,rfl⟩:=Int.eq_ofNat_of_zero_le hp
  obtain ⟨q,rfl⟩:=Int.eq_ofNat_of_zero_le hq
  rw [Int.tmod_eq_emod_of_nonneg (by omega),← Int.natCast_emod,Int.gcd_natCast_natCast,Int.gcd_natCast_natCast,Nat.gcd_comm q,Nat.gcd_comm p q,Nat.gcd_rec q p]
theorem QY {i:Int × Int} {a b:Int} (hi:0≤i.1∧0≤i.2∧Int.gcd i.1 i.2=Int.gcd a b) (h:i.2≠0):(0≤i.2∧0≤i.1.tmod i.2∧Int.gcd i.2 (i.1.tmod i.2)=Int.gcd a b)∧(i.1.tmod i.2).toNat < i.2.toNat:=by
  have h1:=Int.tmod_nonneg i.2 hi.1
  have h2:=Int.tmod_lt_of_pos i.1 (b:=i.2) (by omega)
  exact ⟨⟨hi.2.1,h1,(aby hi.1 hi.2.1).trans hi.2.2⟩,by omega⟩
theorem Ym {i:Int × Int} {a b:Int} (hi:0≤i.1∧0≤i.2∧Int.gcd i.1 i.2=Int.gcd a b) (h:i.2=0):i.1=(Int.gcd a b:Int):=by
  rw [← hi.2.2,h]
  have:=hi.1
  simp [Int.gcd_zero_right]
  omega
theorem U4 {n:Int} {g:Int} (hn:1≤n∧n≤1073741824) (hg:0 < g) (hd:g∣n):1≤IntKind.u64.wrap (n.tdiv g)∧IntKind.u64.wrap (n.tdiv g)≤1073741824:=by
  have e:n.tdiv g=n / g:=Int.tdiv_eq_ediv_of_nonneg (by omega)
  have h1:g≤n:=Int.le_of_dvd (by omega) hd
  have h2:1≤n / g:=(Int.le_ediv_iff_mul_le hg).2 (by omega)
  have h3:n / g≤n:=Int.ediv_le_self _ (by omega)
  rw [e,c6 (by omega) (by omega)]
  omega
def ng (a:Int) (b:Int):Sk (Int) :=
 .bind true (fun b1=>b1=(Int.gcd a b:Int))
 (.loop (default:Sum (Int) (Int)) (fun i2=>0≤i2.1∧0≤i2.2∧Int.gcd i2.1 i2.2=Int.gcd a b) (fun i2=>i2.2.toNat) ((a,b):Int × Int)
 (fun (i2:Int × Int)=>⟨[(0,.d (.v (.int .u64 i2.1))),(1,.d (.v (.int .u64 i2.2)))],[]⟩) fun i2 =>
 .br (i2.2 != 0)
 (.r 2 (.p (i2.2≠0)) fun _ =>
 .fin (.inr (i2.2,i2.1.tmod i2.2)))
 (.fin (.inl (.inr i2.1))))
 (fun (b1:Int)=>⟨[(0,.d (.v (.int .u64 b1)))],[]⟩) fun b1 =>
 .fin b1
def QZ a b:=(ng a b).val
theorem PT (a:Int) (b:Int) (hP:0≤a∧0≤b):(ng a b).cC (fun (x:Int)=>x=(Int.gcd a b:Int)):=by
  refine Sk.aP _ ?_
  unfold ng
  simp only [Sk.ct,Sk.aA,reduceCtorEq,ON,kk,kp,maxLen]
  exact ⟨⟨hP,fun i hi=>⟨fun hc _=>QY hi (by simpa using hc),fun hc=>Ym hi (by simpa using hc)⟩⟩,fun b hb=>hb⟩

theorem NJ (a:Int) (b:Int):(fun (x:Int)=>(0≤a∧0≤b)→(x=(Int.gcd a b:Int))) (QZ a b):=fun hP=>Sk.cI _ (PT a b hP)
theorem Ss (a:Int) (b:Int) (ha:0≤a∧0≤b):(ng a b).a6 (fun _=>True):=by
  refine Sk.aG _ ?_
  unfold ng
  simp only [Sk.gL,Sk.aA,reduceCtorEq,ON,kk,kp,maxLen]
  exact ⟨ha,fun i hi=>⟨fun hc=>⟨by simpa using hc,fun _=>QY hi (by simpa using hc)⟩,fun hc=>Ym hi (by simpa using hc)⟩⟩

def A3 a b:=kk tok mixed Tryz.func226 [.d (.v (.int .u64 a)),.d (.v (.int .u64 b))] (fun x=>.d (.v (.int .u64 x))) true (ng a b) (QZ a b) (Ss a b) (fun (x:Int)=>(0≤a∧0≤b)→(x=(Int.gcd a b:Int))) (NJ a b)
structure Ku where
  hi:Int
  lo:Int
  deriving Inhabited
def Ku.cells (c:Ku):List D:=[.v (.int .u64 c.hi),.v (.int .u64 c.lo)]
def lD (negative:Bool) (num:Ku) (den:Ku):Sk (mb × Int) :=
 .br ((((decide (num.hi > 0))||(decide (den.hi > 0)))||(decide (num.lo > 1152921504606846976)))||(decide (den.lo > 1152921504606846976)))
 (.fin (({ num:=0,den:=0 }:mb),3))
 (.br negative
 (.fin (({ num:=au (0 - (au (num.lo))),den:=au (den.lo) }:mb),0))
 (.fin (({ num:=au (num.lo),den:=au (den.lo) }:mb),0)))
def NK negative num den:=(lD negative num den).val
theorem NL (negative:Bool) (num:Ku) (den:Ku) (hP:num.hi=0∧den.hi=0∧negative=false∧(1≤num.lo∧num.lo≤1073741824)∧1≤den.lo∧den.lo≤1073741824):(lD negative num den).cC (fun (x:mb × Int)=>x.1.num=num.lo∧x.1.den=den.lo):=by
  unfold lD
  exact ET

theorem Kv (negative:Bool) (num:Ku) (den:Ku):(fun (x:mb × Int)=>(num.hi=0∧den.hi=0∧negative=false∧(1≤num.lo∧num.lo≤1073741824)∧1≤den.lo∧den.lo≤1073741824)→(x.1.num=num.lo∧x.1.den=den.lo)) (NK negative num den):=fun hP=>Sk.cI _ (NL negative num den hP)
theorem PU (negative:Bool) (num:Ku) (den:Ku):(lD negative num den).a6 (fun _=>True):=by
  unfold lD
  exact od

def yP negative num den:=kk tok mixed Tryz.func227 [bv negative,av num.cells,av den.cells] (fun x=>.fj [av x.1.cells,iv x.2]) true (lD negative num den) (NK negative num den) (u0 (PU negative num den)) (fun (x:mb × Int)=>(num.hi=0∧den.hi=0∧negative=false∧(1≤num.lo∧num.lo≤1073741824)∧1≤den.lo∧den.lo≤1073741824)→(x.1.num=num.lo∧x.1.den=den.lo)) (Kv negative num den)
def nV (num:Int) (den:Int):Sk (mb × Int) :=
 .br (den == 0)
 (.fin (({ num:=0,den:=0 }:mb),1))
 (.r 3 (.dep ((vS num).c) fun _=>(vS den).c) fun p5 =>
 .r 4 ((A3 p5.1 p5.2).c) fun x3 =>
 .r 5 (.al (.p (x3≠0)) (.al (.p (x3≠0)) ((yP (!((decide (num < 0)) == (decide (den < 0)))) ({ hi:=0,lo:=IntKind.u64.wrap (p5.1.tdiv x3) }:Ku) ({ hi:=0,lo:=IntKind.u64.wrap (p5.2.tdiv x3) }:Ku)).c))) fun x4 =>
 .fin (x4.1,x4.2))
def Xe num den:=(nV num den).val
theorem NM (num:Int) (den:Int):(nV num den).cC (fun (x:mb × Int)=>(den=0→x.2=1)∧((1≤num∧num≤1073741824)∧1≤den∧den≤1073741824→(1≤x.1.num∧x.1.num≤1073741824)∧1≤x.1.den∧x.1.den≤1073741824)):=by
  refine Sk.aP _ ?_
  unfold nV
  simp only [Sk.ct,Sk.aA,reduceCtorEq,ON,kk,kp,vS,A3,yP,maxLen]
  refine ⟨fun hc h=>?_,fun hc x _ hx y _ hy z _ hz=>⟨fun h=>?_,fun h=>?_⟩⟩
  all_goals simp only [LN] at hc
  · omega
  · omega
  · have e1:=hx.1.2.2 (by omega) (by omega)
    have e2:=hx.2.2.2 (by omega) (by omega)
    have hg:=hy ⟨hx.1.1,hx.2.1⟩
    rw [e1,e2] at hg hz
    have JB:0 < y:=by
      rw [hg]
      have:=Int.gcd_pos_of_ne_zero_left (a:=num) den (by omega)
      omega
    have q1:=U4 h.1 JB (by rw [hg]; exact Int.gcd_dvd_left ..)
    have q2:=U4 h.2 JB (by rw [hg]; exact Int.gcd_dvd_right ..)
    have ach:(!decide (num < 0) == decide (den < 0))=false:=by
      rw [decide_eq_false (by omega),decide_eq_false (by omega)]; rfl
    have:=hz ⟨ach,q1,q2⟩
    omega

theorem PV (num:Int) (den:Int) (hd:(0≤num∧num≤1073741824)∧0≤den∧den≤1073741824):(nV num den).a6 (fun _=>True):=by
  refine Sk.aG _ ?_
  unfold nV
  simp only [Sk.gL,Sk.aA,reduceCtorEq,ON,kk,kp,vS,A3,yP,maxLen]
  intro hc x _ hx
  refine ⟨⟨hx.1.1,hx.2.1⟩,fun y _ hy=>?_⟩
  simp only [LN] at hc
  have hg:=hy ⟨hx.1.1,hx.2.1⟩
  have e2:=hx.2.2.2 (by omega) (by omega)
  have:=Int.gcd_pos_of_ne_zero_right x.1 (b:=x.2) (by omega)
  omega

def yQ num den:=kp tok mixed Tryz.func198 [iv num,iv den] (fun x=>.fj [av x.1.cells,iv x.2]) true (Xe num den) (PV num den) (NM num den)
def kj (r:ah) (from_:Int) (cw:Int) (day:Int):Sk (mb × Bool) :=
 .r 2 ((rG r.aI from_ cw day).c) fun x1 =>
 .bind false (fun b2=>r.cp→(b2.1=0∧b2.2=0)∨((1≤b2.1∧b2.1≤1073741824)∧1≤b2.2∧b2.2≤1073741824))
 (.br (decide (x1≥0))
 (.r 4 (.al (.p (bN x1 r.aI.length)) (.p (bN x1 r.aI.length))) fun _ =>
 .fin (.inr ((r.aI.getD x1.toNat default).num,(r.aI.getD x1.toNat default).den)))
 (.r 5 ((rG r.aI cw from_ day).c) fun x3 =>
 .br (decide (x3≥0))
 (.r 7 (.al (.p (bN x3 r.aI.length)) (.p (bN x3 r.aI.length))) fun _ =>
 .fin (.inr ((r.aI.getD x3.toNat default).den,(r.aI.getD x3.toNat default).num)))
 (.fin (.inr (0,0)))))
 (fun (b2:Int × Int)=>⟨[(10,iv b2.1),(11,iv b2.2)],[]⟩) fun b2 =>
 .r 8 ((yQ b2.1 b2.2).c) fun x4 =>
 .fin (x4.1,x4.2 == 0)
def Jo r from_ cw day:=(kj r from_ cw day).val
theorem Kw (r:ah) (from_:Int) (cw:Int) (day:Int) (hP:r.cp):(kj r from_ cw day).cC (fun (x:mb × Bool)=>x.2=true→(1≤x.1.num∧x.1.num≤1073741824)∧1≤x.1.den∧x.1.den≤1073741824):=by
  refine Sk.aP _ ?_
  unfold kj
  simp only [Sk.ct,Sk.aA,reduceCtorEq,ON,kk,kp,rG,yQ,maxLen]
  intro x _ hx
  refine ⟨⟨fun hc _ hR=>?_,fun hc y _ hy=>⟨fun CW _ hR=>?_,fun _ _=>.inl trivial⟩⟩,fun b _ hb z _ hz h0=>?_⟩
  · simp only [LN] at hc
    exact .inr (hR x.toNat (by omega))
  · simp only [LN] at CW
    exact .inr ⟨(hR y.toNat (by omega)).2,(hR y.toNat (by omega)).1⟩
  · rcases hb hP with h | h
    · have:=hz.1 h.2
      rw [this] at h0
      exact absurd h0 (by decide)
    · exact hz.2 h

theorem HK (r:ah) (from_:Int) (cw:Int) (day:Int):(fun (x:mb × Bool)=>(r.cp)→(x.2=true→(1≤x.1.num∧x.1.num≤1073741824)∧1≤x.1.den∧x.1.den≤1073741824)) (Jo r from_ cw day):=fun hP=>Sk.cI _ (Kw r from_ cw day hP)
theorem NN (r:ah) (from_:Int) (cw:Int) (day:Int) (hra:r.cp):(kj r from_ cw day).a6 (fun _=>True):=by
  refine Sk.aG _ ?_
  unfold kj
  simp only [Sk.gL,Sk.aA,reduceCtorEq,ON,kk,kp,rG,yQ,maxLen]
  intro x _ hx
  refine ⟨⟨fun hc=>⟨?_,fun _ hR=>?_⟩,fun hc y _ hy=>⟨fun CW=>⟨?_,fun _ hR=>?_⟩,fun _ _=>.inl trivial⟩⟩,fun b _ hb=>?_⟩
  · simp only [LN] at hc; omega
  · simp only [LN] at hc
    exact .inr (hR x.toNat (by omega))
  · simp only [LN] at CW; omega
  · simp only [LN] at CW
    exact .inr ⟨(hR y.toNat (by omega)).2,(hR y.toNat (by omega)).1⟩
  · rcases hb hra with h | h <;> omega

def rH r from_ cw day:=kk tok mixed Tryz.func171 [av r.cells,iv from_,iv cw,iv day] (fun x=>.fj [av x.1.cells,bv x.2]) true (kj r from_ cw day) (Jo r from_ cw day) (NN r from_ cw day) (fun (x:mb × Bool)=>(r.cp)→(x.2=true→(1≤x.1.num∧x.1.num≤1073741824)∧1≤x.1.den∧x.1.den≤1073741824)) (HK r from_ cw day)
theorem Su {a b:Int} (ha:1≤a∧a≤1073741824) (hb:1≤b∧b≤1073741824):(1≤a * b∧a * b≤1152921504606846976)∧IntKind.u64.wrap (IntKind.u64.wrap a * IntKind.u64.wrap b)=a * b:=by
  have h1:1 * b≤a * b:=Int.mul_le_mul_of_nonneg_right ha.1 (by omega)
  have h2:a * b≤1073741824 * b:=Int.mul_le_mul_of_nonneg_right ha.2 (by omega)
  have h3:1≤a * b∧a * b≤1152921504606846976:=by omega
  rw [c6 (n:=a) (by omega) (by omega),c6 (n:=b) (by omega) (by omega),c6 (by omega) (by omega)]
  exact ⟨h3,rfl⟩
theorem U5 {s D W x y:Int} (hs:0≤s∧s≤1099511627776) (hD:0≤D∧D≤W) (hW:1≤W∧W≤1152921504606846976) (hx:0≤x) (hy:0≤y) (e:x * 18446744073709551616+y=s * D):x < W∧0≤s * D / W∧s * D / W≤s:=by
  have h0:0≤s * D:=Int.mul_nonneg hs.1 hD.1
  have h1:s * D≤s * W:=Int.mul_le_mul_of_nonneg_left hD.2 hs.1
  have h2:s * W≤1099511627776 * W:=Int.mul_le_mul_of_nonneg_right hs.2 (by omega)
  exact ⟨by omega,Int.ediv_nonneg h0 (by omega),Int.ediv_le_of_le_mul (by omega) h1⟩
def km (sum:Int) (a:mb) (b:mb):Sk (Int) :=
 .br (decide ((IntKind.u64.wrap ((IntKind.u64.wrap (a.num)) * (IntKind.u64.wrap (b.num))))≥(IntKind.u64.wrap ((IntKind.u64.wrap (a.den)) * (IntKind.u64.wrap (b.den))))))
 (.fin 0)
 (.r 4 ((jl (IntKind.u64.wrap (sum)) (IntKind.u64.wrap ((IntKind.u64.wrap ((IntKind.u64.wrap (a.den)) * (IntKind.u64.wrap (b.den)))) - (IntKind.u64.wrap ((IntKind.u64.wrap (a.num)) * (IntKind.u64.wrap (b.num))))))).c) fun x1 =>
 .r 5 ((nf x1.1 x1.2 (IntKind.u64.wrap ((IntKind.u64.wrap (a.den)) * (IntKind.u64.wrap (b.den))))).c) fun x2 =>
 .fin (au (x2.1)))
def Jp sum a b:=(km sum a b).val
theorem Kx (sum:Int) (a:mb) (b:mb) (hP:(0≤sum∧sum≤1099511627776)∧((1≤a.num∧a.num≤1073741824)∧1≤a.den∧a.den≤1073741824)∧(1≤b.num∧b.num≤1073741824)∧1≤b.den∧b.den≤1073741824):(km sum a b).cC (fun (x:Int)=>0≤x∧x≤1099511627776):=by
  refine Sk.aP _ ?_
  unfold km
  simp only [Sk.ct,Sk.aA,reduceCtorEq,ON,kk,kp,nf,jl,maxLen]
  obtain ⟨hs,ha,hb⟩:=hP
  obtain ⟨hk,ek⟩:=Su (a:=a.num) (b:=b.num) ha.1 hb.1
  obtain ⟨hw,ew⟩:=Su (a:=a.den) (b:=b.den) ha.2 hb.2
  rw [ek,ew]
  refine ⟨fun _=>⟨by decide,by decide⟩,fun hc x _ hx y _ hy=>?_⟩
  simp only [LN] at hc
  rw [c6 (n:=sum) hs.1 (by omega),c6 (n:=a.den * b.den - a.num * b.num) (by omega) (by omega)] at hx
  obtain ⟨h1,h2,h3⟩:=hx ⟨⟨hs.1,by omega⟩,by omega,by omega⟩
  obtain ⟨l1,l2,l3⟩:=U5 hs (D:=a.den * b.den - a.num * b.num) (by omega) hw h1.1 h2.1 h3
  have hy:=(hy ⟨h1.1,l1,by omega,h2.1,h2.2⟩).1
  rw [h3] at hy
  rw [ar (by omega) (by omega)]
  omega

theorem HL (sum:Int) (a:mb) (b:mb):(fun (x:Int)=>((0≤sum∧sum≤1099511627776)∧((1≤a.num∧a.num≤1073741824)∧1≤a.den∧a.den≤1073741824)∧(1≤b.num∧b.num≤1073741824)∧1≤b.den∧b.den≤1073741824)→(0≤x∧x≤1099511627776)) (Jp sum a b):=fun hP=>Sk.cI _ (Kx sum a b hP)
theorem NP (sum:Int) (a:mb) (b:mb) (hs:0≤sum∧sum≤1099511627776) (ha:(1≤a.num∧a.num≤1073741824)∧1≤a.den∧a.den≤1073741824) (hb:(1≤b.num∧b.num≤1073741824)∧1≤b.den∧b.den≤1073741824):(km sum a b).a6 (fun _=>True):=by
  refine Sk.aG _ ?_
  unfold km
  simp only [Sk.gL,Sk.aA,reduceCtorEq,ON,kk,kp,nf,jl,maxLen]
  obtain ⟨hk,ek⟩:=Su (a:=a.num) (b:=b.num) ha.1 hb.1
  obtain ⟨hw,ew⟩:=Su (a:=a.den) (b:=b.den) ha.2 hb.2
  rw [ek,ew]
  intro hc x _ hx
  simp only [LN] at hc
  rw [c6 (n:=sum) hs.1 (by omega),c6 (n:=a.den * b.den - a.num * b.num) (by omega) (by omega)] at hx
  obtain ⟨h1,h2,h3⟩:=hx ⟨⟨hs.1,by omega⟩,by omega,by omega⟩
  obtain ⟨l1,l2,l3⟩:=U5 hs (D:=a.den * b.den - a.num * b.num) (by omega) hw h1.1 h2.1 h3
  exact ⟨h1.1,l1,by omega,h2.1,h2.2⟩

def wP sum a b:=kk tok mixed Tryz.func172 [iv sum,av a.cells,av b.cells] (fun x=>iv x) true (km sum a b) (Jp sum a b) (u3 (NP sum a b)) (fun (x:Int)=>((0≤sum∧sum≤1099511627776)∧((1≤a.num∧a.num≤1073741824)∧1≤a.den∧a.den≤1073741824)∧(1≤b.num∧b.num≤1073741824)∧1≤b.den∧b.den≤1073741824)→(0≤x∧x≤1099511627776)) (HL sum a b)
def fN (r:ah) (b:qA) (dS:Int) (sum:Int) (from_:Int) (cw:Int):Sk (Int) :=
 .r 1 (.al (.p (bN dS r.bU.length)) (.p (bN ((r.bU.getD dS.toNat default).bK) r.bo.length))) fun _ =>
 .br (((r.bo.getD (((r.bU.getD dS.toNat default).bK).toNat) default).aE) == b.aE)
 (.fin 0)
 (.r 4 ((rH r b.aE ((r.bo.getD (((r.bU.getD dS.toNat default).bK).toNat) default).aE) from_).c) fun x1 =>
 .r 5 ((rH r ((r.bo.getD (((r.bU.getD dS.toNat default).bK).toNat) default).aE) b.aE cw).c) fun x2 =>
 .br ((!x1.2)||(!x2.2))
 (.fin 0)
 (.r 8 ((wP sum x1.1 x2.1).c) fun x3 =>
 .fin x3))
def zB r b dS sum from_ cw:=(fN r b dS sum from_ cw).val
theorem Ci (r:ah) (b:qA) (dS:Int) (sum:Int) (from_:Int) (cw:Int) (hP:(0≤sum∧sum≤1099511627776)∧r.cp):(fN r b dS sum from_ cw).cC (fun (x:Int)=>0≤x∧x≤1099511627776):=by
  unfold fN
  try simp only [rH,wP]
  exact ET

theorem A4 (r:ah) (b:qA) (dS:Int) (sum:Int) (from_:Int) (cw:Int):(fun (x:Int)=>((0≤sum∧sum≤1099511627776)∧r.cp)→(0≤x∧x≤1099511627776)) (zB r b dS sum from_ cw):=fun hP=>Sk.cI _ (Ci r b dS sum from_ cw hP)
theorem Dz (r:ah) (b:qA) (dS:Int) (sum:Int) (from_:Int) (cw:Int) (hw:0≤dS∧dS < (r.bU.length:Int)) (hs:0≤sum∧sum≤1099511627776) (hfi:r.fD) (hra:r.cp):(fN r b dS sum from_ cw).a6 (fun _=>True):=by
  refine Sk.aG _ ?_
  unfold fN
  simp only [Sk.gL,Sk.aA,reduceCtorEq,ON,kk,kp,rH,wP,maxLen]
  refine ⟨⟨hw,hfi dS.toNat (by omega)⟩,fun _ _=>⟨hra,fun x _ hx=>⟨hra,fun y _ hy hc=>?_⟩⟩⟩
  simp only [LN] at hc
  exact ⟨hs,hx hra hc.1,hy hra hc.2⟩

def qk r b dS sum from_ cw:=kk tok mixed Tryz.func134 [av r.cells,av b.cells,iv dS,iv sum,iv from_,iv cw] (fun x=>iv x) true (fN r b dS sum from_ cw) (zB r b dS sum from_ cw) (u4 (Dz r b dS sum from_ cw)) (fun (x:Int)=>((0≤sum∧sum≤1099511627776)∧r.cp)→(0≤x∧x≤1099511627776)) (A4 r b dS sum from_ cw)
def ko (r:ah) (forum:Int) (f:ai) (sign:Int) (day:Int):Sk (Kl) :=
 .r 1 ((bj f day).c) fun x1 =>
 .r 2 ((wN r forum f sign day).c) fun x2 =>
 .br (((!x2.2)||(decide (sign < 0)))||(decide (sign≥((x1.ae.length:Nat):Int))))
 (.fin ({ sum:=0,nU:=0,FB:=0,exchange:=0,Xd:=0,rest:=0,aE:=0 }:Kl))
 (.r 6 ((cj r forum f day).c) fun x3 =>
 .bind false (fun b4=>bu r f→r.cp→(0≤b4.sum∧b4.sum≤1099511627776)∧(0≤b4.nU∧b4.nU≤1099511627776)∧(0≤b4.FB∧b4.FB≤1099511627776)∧(0≤b4.exchange∧b4.exchange≤1099511627776))
 (.br ((x3 != (-1))&&(decide (x3≤(cS day 100000))))
 (.bind false (fun _=>True)
 (.br (f.aX.pF == 0)
 (.r 11 (.dep ((gr r forum 16 ({ file:=f,sign:=sign,iP:=sign,jh:=(-1),due:=x3,day:=day }:fR)).c) fun x6=>(pS x6).c) fun p8 =>
 .fin (.inr (cS 1000 (bW 0 p8.2))))
 (.fin (.inr f.aX.pF)))
 (fun (b5:Int)=>⟨[(18,iv b5)],[]⟩) fun b5 =>
 .r 12 ((qi x2.1.sum b5 x3 (cS day 100000)).c) fun x9 =>
 .r 13 (.dep ((gr r forum 17 ({ file:=f,sign:=sign,iP:=sign,jh:=(-1),due:=x3,day:=day }:fR)).c) fun JN=>(gu JN).c) fun p13 =>
 .br (p13.2 == 1)
 (.r 14 (.al (.p (bN sign x1.ae.length)) ((qk r f.aX ((x1.ae.getD sign.toNat default).dS) x2.1.sum x3 (cS day 100000)).c)) fun GG =>
 .fin (.inr ({ sum:=x2.1.sum,nU:=x9,FB:=0,exchange:=GG,Xd:=0,rest:=0,aE:=f.aX.aE }:Kl)))
 (.fin (.inr ({ sum:=x2.1.sum,nU:=x9,FB:=0,exchange:=0,Xd:=0,rest:=0,aE:=f.aX.aE }:Kl))))
 (.fin (.inr ({ sum:=x2.1.sum,nU:=0,FB:=0,exchange:=0,Xd:=0,rest:=0,aE:=f.aX.aE }:Kl))))
 (fun (b4:Kl)=>⟨[],[(14,.box (b4.cells.map .d))]⟩) fun b4 =>
 .bind true (fun PW=>bu r f→0≤PW∧PW≤1099511627776)
 (.loop (default:Sum (Kl) (Int)) (fun i15=>i15.1≤x1.aw.length∧(bu r f→0≤i15.2∧i15.2≤1099511627776)) (fun i15=>x1.aw.length - i15.1) ((0,b4.FB):Nat × Int)
 (fun (i15:Nat × Int)=>⟨[(116,iv ((i15.1:Nat):Int))],[(14,.box [iv b4.sum,iv b4.nU,iv i15.2,iv b4.exchange,iv b4.Xd,iv b4.rest,iv b4.aE])]⟩) fun i15 =>
 .lt 114 0 i15.1 x1.aw.length
 (.r 17 (.p (bN ((i15.1:Nat):Int) x1.aw.length)) fun _ =>
 .br ((((x1.aw.getD i15.1 default).kind) == 4)||(((x1.aw.getD i15.1 default).kind) == 5))
 (.r 20 .z fun _ =>
 .wi 116 (au (((i15.1:Nat):Int)+1)) ((i15.1+1:Nat):Int) <|
 .fin (.inr (i15.1+1,cS 1099511627776 (au (i15.2+((x1.aw.getD i15.1 default).sum))))))
 (.nx 20 116 i15.1 (i15.1+1,i15.2)))
 (.fin (.inl (.inr i15.2))))
 (fun (PW:Int)=>⟨[],[(14,.box [iv b4.sum,iv b4.nU,iv PW,iv b4.exchange,iv b4.Xd,iv b4.rest,iv b4.aE])]⟩) fun PW =>
 .fin ({ b4 with FB:=PW,rest:=cS 1099511627776 (au ((au ((au (b4.sum+b4.nU))+PW))+b4.exchange)) }))
def pw r forum f sign day:=(ko r forum f sign day).val
theorem Ky (r:ah) (forum:Int) (f:ai) (sign:Int) (day:Int) (hP:bu r f∧r.cp):(ko r forum f sign day).cC (fun (x:Kl)=>0≤x.rest∧x.rest≤1099511627776):=by
  refine Sk.aP _ ?_
  unfold ko
  simp only [Sk.ct,Sk.aA,reduceCtorEq,ON,kk,kp,qk,qi,gr,cj,pS,gu,wN,bj,maxLen]
  obtain ⟨hF,hR⟩:=hP
  have aeN:=hF.acN
  have hSm:=hF.small
  have hw:∀ h1:ai,h1=aj f day→0≤sign→sign < (h1.ae.length:Int)→0≤(h1.ae.getD sign.toNat default).dS∧(h1.ae.getD sign.toNat default).dS < (r.bU.length:Int):=fun h1 e a b=>by subst e; exact hF.aa9 day a b
  have ha:∀ h1:ai,h1=aj f day→∀ q:Nat,q < h1.aw.length→0≤(h1.aw.getD q default).sum∧(h1.aw.getD q default).sum≤1099511627776:=fun h1 e q hq=>by subst e; exact (hF.Yg day).2.2.2 q hq
  all_goals (repeat' first | assumption | (apply And.intro) | (intro h))
  all_goals first | trivial | assumption | omega | (try simp only [hF,hR,aeN,hSm,and_self,and_true,true_implies,forall_const,LN] at *) <;> first | omega | assumption | exact (hw _ ‹_=aj f day› (by omega) (by omega)).1 | exact (hw _ ‹_=aj f day› (by omega) (by omega)).2 | (simp (disch:=omega) only [ar] at *; omega) | (simp (disch:=omega) only [ar,cS] at *; split <;> omega) | (have hq:=ha _ ‹_=aj f day› _ (Int.ofNat_lt.1 (by assumption)); simp (disch:=omega) only [ar,cS] at *; first | omega | (split <;> omega))

theorem xQ (r:ah) (forum:Int) (f:ai) (sign:Int) (day:Int):(fun (x:Kl)=>(bu r f∧r.cp)→(0≤x.rest∧x.rest≤1099511627776)) (pw r forum f sign day):=fun hP=>Sk.cI _ (Ky r forum f sign day hP)
theorem NQ (r:ah) (forum:Int) (f:ai) (sign:Int) (day:Int) (hF:bu r f) (aV:f.Small) (bg:r.bD) (aO:r.Small) (dA:r.fD) (dm:r.cp):(ko r forum f sign day).a6 (fun _=>True):=by
  refine Sk.aG _ ?_
  unfold ko
  simp only [Sk.gL,Sk.aA,reduceCtorEq,ON,kk,kp,qk,qi,gr,cj,pS,gu,wN,bj,maxLen]
  have aeN:=hF.acN
  have hSm:=hF.small
  have hw:∀ h1:ai,h1=aj f day→0≤sign→sign < (h1.ae.length:Int)→0≤(h1.ae.getD sign.toNat default).dS∧(h1.ae.getD sign.toNat default).dS < (r.bU.length:Int):=fun h1 e a b=>by subst e; exact hF.aa9 day a b
  have ha:∀ h1:ai,h1=aj f day→∀ q:Nat,q < h1.aw.length→0≤(h1.aw.getD q default).sum∧(h1.aw.getD q default).sum≤1099511627776:=fun h1 e q hq=>by subst e; exact (hF.Yg day).2.2.2 q hq
  all_goals (repeat' first | assumption | (apply And.intro) | (intro h))
  all_goals first | trivial | assumption | omega | (try simp only [hF,dm,aeN,hSm,and_self,and_true,true_implies,forall_const,LN] at *) <;> first | omega | assumption | exact (hw _ ‹_=aj f day› (by omega) (by omega)).1 | exact (hw _ ‹_=aj f day› (by omega) (by omega)).2 | (simp (disch:=omega) only [ar] at *; omega) | (simp (disch:=omega) only [ar,cS] at *; split <;> omega) | (have hq:=ha _ ‹_=aj f day› _ (Int.ofNat_lt.1 (by assumption)); simp (disch:=omega) only [ar,cS] at *; first | omega | (split <;> omega))

def wQ r forum f sign day:=kk tok mixed Tryz.func103 [av r.cells,iv forum,av f.cells,iv sign,iv day] (fun x=>av x.cells) true (ko r forum f sign day) (pw r forum f sign day) (u6 (NQ r forum f sign day)) (fun (x:Kl)=>(bu r f∧r.cp)→(0≤x.rest∧x.rest≤1099511627776)) (xQ r forum f sign day)
def lE (r:ah) (forum:Int) (f:ai) (day:Int):Sk ((List Claim)) :=
 .r 1 ((Hv r forum f day).c) fun x1 =>
 .br (!x1.2)
 (.fin [])
 (.r 4 ((uH r forum f day).c) fun x2 =>
 .bind true (fun b3=>b3.length≤1000000)
 (.loop (default:Sum ((List Claim)) ((List Claim))) (fun i4=>i4.1≤x1.1.view.lead.length∧i4.2.length≤i4.1 * 10000) (fun i4=>x1.1.view.lead.length - i4.1) ((0,[]):Nat × (List Claim))
 (fun (i4:Nat × (List Claim))=>⟨[(42,iv ((i4.1:Nat):Int))],[(100366,aU 53 9 Claim.cells i4.2),(12,.box [ow 100366 i4.2])]⟩) fun i4 =>
 .lt 40 0 i4.1 x1.1.view.lead.length
 (.bind true (fun b5=>b5.length≤i4.2.length+10000)
 (.r 8 (.p (bN ((i4.1:Nat):Int) x1.1.view.lead.length)) fun _ =>
 .r 9 ((ra x1.1.view (x1.1.view.lead.getD i4.1 default)).c) fun x6 =>
 .r 10 ((uL x1.1 x6).c) fun _ =>
 .bind true (fun b8=>b8.length≤i4.2.length+10000)
 (.rf (kW x1.1 x6) (fun ki9 i9=>i9.length≤i4.2.length+ki9 * 100) (fun (_:Unit)=>False) 2 (i4.2:(List Claim))
 (fun (i9:(List Claim))=>[(100534,aU 53 9 Claim.cells i9),(12,.box [ow 100534 i9])]) (fun (_:Unit)=>[])
 (fun i9 Xf =>
 .bind true (fun b12=>b12.length≤i9.length+100)
 (.r 12 ((qg x1.1.view (x1.1.view.lead.getD i4.1 default) Xf.sign x6).c) fun PM =>
 .bind true (fun PW=>PW.2.length≤i9.length+PM.length)
 (.loop (default:Sum (Sum (Sum (Unit) ((List Claim))) ((List Claim))) (Int × (List Claim))) (fun i15=>i15.1≤PM.length∧i15.2.length≤i9.length+i15.1) (fun i15=>PM.length - i15.1) ((0,i9):Nat × (List Claim))
 (fun (i15:Nat × (List Claim))=>⟨[(62,iv ((i15.1:Nat):Int))],[(100548,aU 53 9 Claim.cells i15.2),(12,.box [ow 100548 i15.2])]⟩) fun i15 =>
 .lt 60 0 i15.1 PM.length
 (.r 14 (.p (bN ((i15.1:Nat):Int) PM.length)) fun _ =>
 .r 15 (.p (bN (PM.getD i15.1 default) x1.1.view.now.ae.length)) fun _ =>
 .r 16 ((qh x1.1 Xf (PM.getD i15.1 default) x6 x2).c) fun ZG =>
 .br ((ZG.1 == 0)||(((x1.1.view.now.ae.getD ((PM.getD i15.1 default).toNat) default).dS) == Xf.ke))
 (.nx 20 62 i15.1 (i15.1+1,i15.2))
 (.r 18 ((wQ r forum f (PM.getD i15.1 default) day).c) fun x17 =>
 .r 19 (.al (.o [.dn (dH Claim.E [({ aW:=(x1.1.view.now.ae.getD ((PM.getD i15.1 default).toNat) default).dS,az:=Xf.ke,part:=x1.1.view.lead.getD i4.1 default,sign:=PM.getD i15.1 default,cz:=Xf.sign,eD:=ZG.2,sum:=x17.rest,aE:=f.aX.aE,state:=ZG.1 }:Claim)])]) (.al (.o [.dn (kE Claim.E i15.2 [({ aW:=(x1.1.view.now.ae.getD ((PM.getD i15.1 default).toNat) default).dS,az:=Xf.ke,part:=x1.1.view.lead.getD i4.1 default,sign:=PM.getD i15.1 default,cz:=Xf.sign,eD:=ZG.2,sum:=x17.rest,aE:=f.aX.aE,state:=ZG.1 }:Claim)])]) (.al (.t (Claim.E.mT [({ aW:=(x1.1.view.now.ae.getD ((PM.getD i15.1 default).toNat) default).dS,az:=Xf.ke,part:=x1.1.view.lead.getD i4.1 default,sign:=PM.getD i15.1 default,cz:=Xf.sign,eD:=ZG.2,sum:=x17.rest,aE:=f.aX.aE,state:=ZG.1 }:Claim)])) (.p (vE i15.2.length [({ aW:=(x1.1.view.now.ae.getD ((PM.getD i15.1 default).toNat) default).dS,az:=Xf.ke,part:=x1.1.view.lead.getD i4.1 default,sign:=PM.getD i15.1 default,cz:=Xf.sign,eD:=ZG.2,sum:=x17.rest,aE:=f.aX.aE,state:=ZG.1 }:Claim)].length 72))))) fun _ =>
 .r 20 .z fun _ =>
 .wi 62 (au (((i15.1:Nat):Int)+1)) ((i15.1+1:Nat):Int) <|
 .fin (.inr (i15.1+1,i15.2++[({ aW:=(x1.1.view.now.ae.getD ((PM.getD i15.1 default).toNat) default).dS,az:=Xf.ke,part:=x1.1.view.lead.getD i4.1 default,sign:=PM.getD i15.1 default,cz:=Xf.sign,eD:=ZG.2,sum:=x17.rest,aE:=f.aX.aE,state:=ZG.1 }:Claim)]))))
 (.fin (.inl (.inr (((i15.1:Nat):Int),i15.2)))))
 (fun (PW:Int × (List Claim))=>⟨[(62,iv PW.1)],[(100547,aU 53 9 Claim.cells PW.2),(12,.box [ow 100547 PW.2])]⟩) fun PW =>
 .fin (.inr PW.2))
 (fun (b12:(List Claim))=>⟨[],[(100545,aU 53 9 Claim.cells b12),(12,.box [ow 100545 b12])]⟩) fun b12 =>
 .fin (.inr b12)) fun r=>match r with
 | .inl _=>(.dead default)
 | .inr j18=>(.fin (.inr j18)))
 (fun (b8:(List Claim))=>⟨[],[(100526,aU 53 9 Claim.cells b8),(12,.box [ow 100526 b8])]⟩) fun b8 =>
 .fin (.inr b8))
 (fun (b5:(List Claim))=>⟨[],[(100503,aU 53 9 Claim.cells b5),(12,.box [ow 100503 b5])]⟩) fun b5 =>
 .nx 21 42 i4.1 (i4.1+1,b5))
 (.fin (.inl (.inr i4.2))))
 (fun (b3:(List Claim))=>⟨[],[(100274,aU 53 9 Claim.cells b3),(12,.box [ow 100274 b3])]⟩) fun b3 =>
 .fin b3)
def cr r forum f day:=(lE r forum f day).val
theorem CM (r:ah) (forum:Int) (f:ai) (day:Int) (hF:bu r f) (aV:f.Small) (bg:r.bD) (aO:r.Small) (dA:r.fD) (dm:r.cp):(lE r forum f day).a6 (fun _=>True):=by
  refine Sk.aG _ ?_
  unfold lE
  simp only [Sk.gL,Sk.aA,reduceCtorEq,ON,kk,kp,Sk.ct,wQ,uH,uL,qh,Hv,qg,ra,kW,Sum.forall,Ca,forall_eq,maxLen]
  refine ⟨⟨aV,bg,aO⟩,?_⟩
  generalize aK r forum f day=x
  intro hx hc
  have he:=(hx (by simpa using hc)).1
  have ho:=CK f day
  dsimp only at ho
  have mf:x.1.view.all=f:=by rw [he]; exact ho.1
  have U6:x.1.view.now=aj f day:=by rw [he]; exact ho.2.1
  have abp:x.1.view.day=day:=by rw [he]; exact ho.2.2.1
  have hxr:x.1.r=r:=by rw [he]
  have aim:=hF.2.1.1
  have agv:x.1.view.lead.length≠0∧x.1.view.lead.length≤41:=by rw [he]; exact ⟨ho.2.2.2.1,by have:=ho.2.2.2.2; show (aQ f day).lead.length≤41; omega⟩
  have hsg:=mY f day
  have agw:x.1.view.kO:=by unfold View.kO; rw [U6]; exact hF.Yh day
  have ym:∀ part,(aq x.1.view part).length≤40∧∀ y,y∈aq x.1.view part→0≤y∧y < ((aj f day).ae.length:Int):=fun part=>by
    have h:=nC x.1.view part
    rw [mf,abp] at h
    exact ⟨Nat.le_trans h.1 aim,fun y hy=>⟨(h.2 y hy).1,hF.adG (h.2 y hy).1 (h.2 y hy).2.1 (h.2 y hy).2.2⟩⟩
  have hlg:∀ part i,i < (aq x.1.view part).length→0≤(aq x.1.view part).getD i default∧(aq x.1.view part).getD i default < ((aj f day).ae.length:Int):=fun part i hi=>(ym part).2 _ (gH hi _)
  have LV:∀ part,Xb x.1 (aq x.1.view part):=fun part=>by
    refine ⟨by have:=(ym part).1; omega,fun i hi=>by rw [U6]; exact hlg part i hi,fun i hi=>?_⟩
    have hs:x.1.view.now.Small:=by rw [U6]; exact Aw aV day
    have hb:x.1.r.bD:=by rw [hxr]; exact bg
    have hr:x.1.r.Small:=by rw [hxr]; exact aO
    exact ⟨hs,hb,hr⟩
  have hol:∀ part k y,(bp x.1 (aq x.1.view part))[k]? = some y→k≤40:=fun part k y h=>by
    have h1:=(List.getElem?_eq_some_iff.1 h).1
    have h2:=Dv x.1 (aq x.1.view part)
    have h3:=(ym part).1
    omega
  have VQ:∀ part b l,(bz x.1.view part b l).length≤40∧∀ i,i < (bz x.1.view part b l).length→0≤(bz x.1.view part b l).getD i default∧(bz x.1.view part b l).getD i default < ((aj f day).ae.length:Int):=fun part b l=>by
    have h:=si x.1.view part b l
    rw [U6] at h
    exact ⟨Nat.le_trans h.1 (by omega),fun i hi=>h.2 _ (gH hi _)⟩
  refine ⟨⟨aV,bg,aO⟩,fun hE=>⟨⟨Nat.zero_le _,by simp⟩,fun i hi hm=>⟨fun dK=>⟨⟨by simp only [LN] at dK; omega,fun _=>⟨by rw [mf]; exact aV,fun _ _=>⟨⟨LV _,by omega,fun k s y hs hy=>?_,?_⟩,?_⟩⟩⟩,?_⟩,?_⟩⟩⟩
  · have hk:=hol _ _ _ hy
    obtain ⟨hn,hg⟩:=VQ (x.1.view.lead.getD i.1 default) y.sign (aq x.1.view (x.1.view.lead.getD i.1 default))
    have nG:∀ (l:List Claim) (c:Claim),(l++[c]).length=l.length+1:=fun l c=>by simp
    have ajd:i.2.length≤410000:=by simp only [LN] at dK; omega
    refine ⟨⟨fun _=>⟨⟨⟨Nat.zero_le _,Nat.le_refl _⟩,fun j hj=>⟨fun hc _ _=>⟨fun _ _=>?_,fun _ _ _ _=>?_⟩,fun hc=>?_⟩⟩,fun b hb=>?_⟩,fun b _ hb=>?_⟩,⟨⟨agv.1,by rw [U6]; omega⟩,fun _=>?_⟩,?_⟩
    · simp only [LN] at hc; exact ⟨⟨by omega,by omega⟩,by omega⟩
    · simp only [LN] at hc; rw [nG]; exact ⟨⟨by omega,by omega⟩,by omega⟩
    · simp only [LN] at hc; omega
    · omega
    · omega
    · have e1:x.1.view.now=aj x.1.view.all x.1.view.day:=by rw [U6,mf,abp]
      have e2:bu x.1.r x.1.view.all:=by rw [hxr,mf]; exact hF
      have e3:x.1.view.all.Small:=by rw [mf]; exact aV
      have e4:x.1.r.bD:=by rw [hxr]; exact bg
      have e5:x.1.r.Small:=by rw [hxr]; exact aO
      have e6:(cu r forum f day).length=x.1.view.now.ae.length:=by rw [U6]; exact hE
      have h1:∀ c:Claim,[c].length=1:=fun _=>rfl
      refine ⟨⟨⟨Nat.zero_le _,Nat.le_refl _⟩,fun j hj hm2=>⟨fun hc=>?_,fun hc=>?_⟩⟩,fun b hb=>by omega⟩
      · simp only [LN] at hc
        have hgj:=hg j.1 (by omega)
        rw [← U6] at hgj
        refine ⟨⟨by omega,by omega⟩,fun _=>⟨hgj,fun _=>⟨⟨e6,hgj,e1,e2,agw,e3,e4,e5⟩,fun _ _=>⟨(ar (by omega) (by omega)).trans (by omega),⟨by omega,by omega⟩,by omega⟩,fun _=>⟨⟨hF,aV,bg,aO,dA,dm⟩,fun _=>⟨?_,fun _ _=>⟨(ar (by omega) (by omega)).trans (by omega),⟨by omega,?_⟩,by omega⟩⟩⟩⟩⟩⟩
        · rw [h1]; omega
        · rw [nG]; omega
      · simp only [LN] at hc; omega
    · exact fun b _ hb=>by omega
  · intro b hb
    have h2:=Dv x.1 (aq x.1.view (x.1.view.lead.getD i.1 default))
    have h3:=(ym (x.1.view.lead.getD i.1 default)).1
    omega
  · exact fun b _ hb=>hb
  · intro b _ hb _
    simp only [LN] at dK
    exact ⟨(ar (by omega) (by omega)).trans (by omega),⟨by omega,by omega⟩,by omega⟩
  · intro hc
    simp only [LN] at hc
    omega

def Sv r forum f day:=kk tok mixed Tryz.func83 [av r.cells,iv forum,av f.cells,iv day] (fun x=>lv Claim.cells x) false (lE r forum f day) (cr r forum f day) (u6 (CM r forum f day))
theorem NR (r:ah) (forum:Int) (f:ai) (day:Int) (hF:bu r f) (aV:f.Small) (bg:r.bD) (aO:r.Small) (dA:r.fD) (dm:r.cp):eC Tryz.prog 83 [av r.cells,iv forum,av f.cells,iv day] [] (ow 777777 (cr r forum f day)) [(777777,aU 53 9 Claim.cells (cr r forum f day))] :=
  eC.sk tok mixed (fun x=>ow 777777 x) (fun x=>[(777777,aU 53 9 Claim.cells x)]) Tryz.func83 rfl (by kernel_rfl) 3000 (lE r forum f day) (by kernel_rfl) (CM r forum f day hF aV bg aO dA dm)
def wR (κ:Nat) (r:ah) (forum:Int) (f:ai) (day:Int):iJ ((List Claim)):=⟨Tryz.prog,83,[av r.cells,iv forum,av f.cells,iv day],fun x=>ow κ x,fun x=>[(κ,aU 53 9 Claim.cells x)],cr r forum f day,(bu r f)∧(f.Small)∧(r.bD)∧(r.Small)∧(r.fD)∧(r.cp),fun h=>eC.Ur κ (NR r forum f day h.1 h.2.1 h.2.2.1 h.2.2.2.1 h.2.2.2.2.1 h.2.2.2.2.2),fun _=>True,trivial⟩
def rI (s:Sign) (v:ba):Sk (Bool) :=
 .fin (s.dS == v.cw)
def gD s v:=(rI s v).val
theorem rJ (s:Sign) (v:ba):gD s v=(s.dS == v.cw):=rfl
theorem PX (s:Sign) (v:ba):(rI s v).a6 (fun _=>True):=by
  unfold rI
  exact od

def yR s v:=kk tok mixed Tryz.func85 [av s.cells,.ref v.cells] (fun x=>bv x) true (rI s v) (gD s v) (u0 (PX s v))
def eR (s:List Sign) (v:ba):Sk (Int) :=
 .bind true (fun b1=>∀ q,q < s.length→gD (s.getD q default) v=false)
 (.loop (default:Sum (Int) (Unit)) (fun i2=>∀ q,q < i2→gD (s.getD q default) v=false) (fun i2=>s.length - i2) (0:Nat)
 (fun (i2:Nat)=>⟨[(8,iv ((i2:Nat):Int))],[]⟩) fun i2 =>
 .lt 0 0 i2 s.length
 (.r 4 (.al (.p (bN ((i2:Nat):Int) s.length)) ((yR (s.getD i2 default) v).c)) fun x3 =>
 .br x3
 (.fin (.inl (.inl ((i2:Nat):Int))))
 (.nx 6 8 i2 (i2+1)))
 (.fin (.inl (.inr ()))))
 (fun (_:Unit)=>⟨[],[]⟩) fun _ =>
 .fin (-1)
def Cj s v:=(eR s v).val
theorem xR (s:List Sign) (v:ba):(eR s v).cC (fun (x:Int)=>(x = -1∧∀ q,q < s.length→gD (s.getD q default) v=false)∨(0≤x∧x < s.length∧gD (s.getD x.toNat default) v=true∧∀ q,(q:Nat) < x.toNat→gD (s.getD q default) v=false)):=by
  unfold eR
  try simp only [yR,rJ]
  exact X9

theorem yS (s:List Sign) (v:ba):(eR s v).a6 (fun _=>True):=by
  unfold eR
  try simp only [yR,rJ]
  exact GD

def lO s v:=kp tok mixed Tryz.func104 [lv Sign.cells s,.fn 85 [.ref v.cells]] (fun x=>iv x) true (Cj s v) (u0 (yS s v)) (xR s v)
def dx (s:List Sign) (v:ba):Sk (Bool) :=
 .r 1 ((lO s v).c) fun x1 =>
 .fin (decide (x1≥0))
def kZ s v:=(dx s v).val
theorem uQ (s:List Sign) (v:ba):(dx s v).cC (fun (x:Bool)=>(x=true↔∃ q,q < s.length∧gD (s.getD q default) v=true)):=by
  unfold dx
  try simp only [lO]
  exact ET

theorem vn (s:List Sign) (v:ba):(dx s v).a6 (fun _=>True):=by
  unfold dx
  try simp only [lO]
  exact od

def fY s v:=kp tok mixed Tryz.func84 [lv Sign.cells s,.fn 85 [.ref v.cells]] (fun x=>bv x) true (kZ s v) (u0 (vn s v)) (uQ s v)
structure Step where
  aW:Int
  az:Int
  sign:Int
  sum:Int
  deriving Inhabited
def Step.cells (c:Step):List D:=[dI c.aW,dI c.az,dI c.sign,dI c.sum]
def Step.E:MK Step:=⟨Step.cells,4,fun _=>rfl,fun _=>rfl⟩
def ja (s:List Claim):Sk ((List Claim)) :=
 .Uk 0 s.length
 (.JG <|
 .fin [])
 (.JH <|
 .r 3 (.al (.o [.dn (dH Claim.E ([]:List Claim))]) (.al (.o [.dn (kE Claim.E ([]:List Claim) s)]) (.al (.t (Claim.E.src s)) (.p (vE (([]:List Claim).length) s.length 72))))) fun _ =>
 .fin (([]:List Claim)++s))
def ql s:=(ja s).val
theorem HM (s:List Claim):(ja s).cC (fun (x:(List Claim))=>x.length=s.length∧x=s):=by
  unfold ja
  simp [Sk.cC,dH,kE]
theorem vT (s:List Claim):(fun (x:(List Claim))=>x.length=s.length∧x=s) (ql s):=have h:=Sk.cI _ (HM s); h
theorem Kz (s:List Claim) (hs:s.length≤1000000000):(ja s).a6 (fun _=>True):=by
  unfold ja
  exact nF

theorem HN (s:List Claim) (hs:s.length≤1000000000):eC Tryz.prog 105 [lv Claim.cells s] [] (ow 777777 (ql s)) [(777777,aU 53 9 Claim.cells (ql s))] :=
  eC.sk tok mixed (fun x=>ow 777777 x) (fun x=>[(777777,aU 53 9 Claim.cells x)]) Tryz.func105 rfl (by kernel_rfl) 3000 (ja s) (by kernel_rfl) (Kz s hs)
def oI (κ:Nat) (s:List Claim):iJ ((List Claim)):=⟨Tryz.prog,105,[lv Claim.cells s],fun x=>ow κ x,fun x=>[(κ,aU 53 9 Claim.cells x)],ql s,(s.length≤1000000000),fun h=>eC.Ur κ (HN s h),fun (x:(List Claim))=>x.length=s.length∧x=s,vT s⟩
def tz (a:ba) (bm:Bool) (c_:Claim):Sk (Bool) :=
 .fin ((c_.az == a.cw)||((c_.az == (-1))&&bm))
def dt a bm c_:=(tz a bm c_).val
theorem jz (a:ba) (bm:Bool) (c_:Claim):dt a bm c_=((c_.az == a.cw)||((c_.az == (-1))&&bm)):=rfl
theorem Sw (a:ba) (bm:Bool) (c_:Claim):(tz a bm c_).a6 (fun _=>True):=by
  unfold tz
  exact od

def vU a bm c_:=kk tok mixed Tryz.func106 [av a.cells,bv bm,av c_.cells] (fun x=>bv x) true (tz a bm c_) (dt a bm c_) (u0 (Sw a bm c_))
structure Key where
  aW:Int
  az:Int
  part:Int
  sign:Int
  cz:Int
  deriving Inhabited
def Key.cells (c:Key):List D:=[dI c.aW,dI c.az,dI c.part,dI c.sign,dI c.cz]
def BG (c_:Claim):Sk (Key) :=
 .fin ({ aW:=c_.aW,az:=c_.az,part:=c_.part,sign:=c_.sign,cz:=c_.cz }:Key)
def abz c_:=(BG c_).val
theorem BH (c_:Claim):abz c_=({ aW:=c_.aW,az:=c_.az,part:=c_.part,sign:=c_.sign,cz:=c_.cz }:Key):=rfl
theorem ZH (c_:Claim):(BG c_).a6 (fun _=>True):=by
  unfold BG
  exact od

def sm c_:=kk tok mixed Tryz.func135 [av c_.cells] (fun x=>av x.cells) true (BG c_) (abz c_) (u0 (ZH c_))
def vV (a:Int) (b:Int):Sk (Int) :=
 .r 1 (.al (.o [.dn (dH dV [a,b])]) ((sb [a,b]).c)) fun x1 =>
 .fin x1
def nW a b:=(vV a b).val
theorem U7 (a:Int) (b:Int):(vV a b).a6 (fun _=>True):=by
  unfold vV
  try simp only [sb]
  exact od

def ri a b:=kk tok mixed Tryz.func136 [iv a,iv b] (fun x=>iv x) true (vV a b) (nW a b) (u0 (U7 a b))
/-- two Sx with Jw same key -/
def dy (x y:Claim):Prop:=x.aW=y.aW∧x.az=y.az∧x.part=y.part∧x.sign=y.sign∧x.cz=y.cz
/-- a jL put to others: Jw first one of its key is ain by f,or it is new -/
def sM (f:Claim→Claim) (l:List Claim) (c:Claim) (x:List Claim):Prop :=
  (∃ i,i < l.length∧dy (l.getD i default) c∧x=l.set i (f (l.getD i default)))∨((∀ i,i < l.length→¬ dy (l.getD i default) c)∧x=l++[c])
def fG (c x:Claim):Claim:={ x with sum:=bW x.sum c.sum,state:=nW c.state x.state }
def fJ (c x:Claim):Claim:={ x with sum:=cS 1099511627776 (au (x.sum+c.sum)),state:=nW x.state c.state }
/-- YN a LJ aiT from a jL -/
def iU (a:ba) (x:Claim):Int:=cS (bW 0 a.sum) (bW 0 x.sum)
def gh (a:ba) (st:Bool) (x:Claim):Claim:=bif dt a st x then { x with sum:=au (bW 0 x.sum - iU a x) } else x
/-- Jw same but for sum and state -/
def DA (x y:Claim):Prop:=dy x y∧x.eD=y.eD∧x.aE=y.aE
theorem DA.rfl' (x:Claim):DA x x:=⟨⟨rfl,rfl,rfl,rfl,rfl⟩,rfl,rfl⟩
theorem DA.trans {x y z:Claim} (h:DA x y) (k:DA y z):DA x z:=⟨⟨h.1.1.trans k.1.1,h.1.2.1.trans k.1.2.1,h.1.2.2.1.trans k.1.2.2.1,h.1.2.2.2.1.trans k.1.2.2.2.1,h.1.2.2.2.2.trans k.1.2.2.2.2⟩,h.2.1.trans k.2.1,h.2.2.trans k.2.2⟩
/-- a ag3 sum and state are as aje may be -/
def NS (x:Claim):Prop:=nL x.sum∧(x.state=1∨x.state=2)
theorem Xg {a b:Int} (ha:a=1∨a=2) (hb:b=1∨b=2):nW a b=1∨nW a b=2:=by
  rcases ha with rfl | rfl <;> rcases hb with rfl | rfl
  · exact .inl (by kernel_rfl)
  · exact .inr (by kernel_rfl)
  · exact .inr (by kernel_rfl)
  · exact .inr (by kernel_rfl)
/-- a jL VX comes of a LJ for a jL of l -/
def Sub (l:List Claim) (a:ba) (c:Claim):Prop:=(c.az=a.dS∧c.cz=a.at_∧c.aW≠a.dS)∧(∃ x∈l,x.aW=c.aW∧x.part=c.part∧x.sign=c.sign∧x.aE=c.aE)∧((∀ x∈l,NS x)→NS c)
def NT (l:List Claim) (a:ba) (nh:List Claim):Prop:=(∀ c∈nh,Sub l a c)∧nh.Pairwise fun x y=>¬ dy x y
theorem abA {a b:Int} (ha:nL a) (hb:nL b):nL (bW a b):=by unfold bW nL at *; split <;> omega
theorem dy.comm {x y:Claim} (h:dy x y):dy y x:=⟨h.1.symm,h.2.1.symm,h.2.2.1.symm,h.2.2.2.1.symm,h.2.2.2.2.symm⟩
theorem dy.tr {x y z:Claim} (h:dy x y) (k:dy y z):dy x z:=⟨h.1.trans k.1,h.2.1.trans k.2.1,h.2.2.1.trans k.2.2.1,h.2.2.2.1.trans k.2.2.2.1,h.2.2.2.2.trans k.2.2.2.2⟩
theorem U8 {l:List Claim} {i:Nat} {y x:Claim} (h:x∈l.set i y):x=y∨x∈l:=by
  rcases List.mem_or_eq_of_mem_set h with h | h
  · exact .inr h
  · exact .inl h
theorem mJ {l:List Claim} {i:Nat} (h:i < l.length):l.getD i default∈l:=gH h _
theorem FE {l:List Claim} {i j:Nat} {y:Claim} (h:j < l.length):(l.set i y).getD j default=if i=j then y else l.getD j default:=by
  simp only [List.getD,List.getElem?_set]
  split
  · subst_vars; simp [h]
  · rfl
theorem NT.group {l:List Claim} {a:ba} {nh x:List Claim} {c:Claim} (h:NT l a nh) (hc:Sub l a c) (hm:sM (fG c) nh c x):NT l a x:=by
  rcases hm with ⟨i,hi,hk,rfl⟩ | ⟨hn,rfl⟩
  · have hs:=h.1 _ (mJ hi)
    have hx:dy (fG c (nh.getD i default)) (nh.getD i default):=⟨rfl,rfl,rfl,rfl,rfl⟩
    refine ⟨fun z hz=>?_,?_⟩
    · rcases U8 hz with rfl | hz
      · exact ⟨hs.1,hs.2.1,fun hP=>⟨abA (hs.2.2 hP).1 (hc.2.2 hP).1,Xg (hc.2.2 hP).2 (hs.2.2 hP).2⟩⟩
      · exact h.1 z hz
    · rw [List.pairwise_iff_getElem]
      intro p q hp hq hpq
      have hp':p < nh.length:=by simpa using hp
      have Rw:q < nh.length:=by simpa using hq
      have h0:=List.pairwise_iff_getElem.1 h.2 p q hp' Rw hpq
      simp only [List.getElem_set]
      have e:∀ j (hj:j < nh.length),i=j→dy (fG c (nh.getD i default)) nh[j]:=by
        rintro j hj rfl
        simpa [List.getD,hj] using hx
      intro hk2
      apply h0
      split at hk2 <;> split at hk2
      · omega
      · exact (e p hp' ‹_›).comm.tr hk2
      · exact hk2.tr (e q Rw ‹_›)
      · exact hk2
  · refine ⟨fun z hz=>?_,?_⟩
    · rcases List.mem_append.1 hz with hz | hz
      · exact h.1 z hz
      · rw [List.mem_singleton.1 hz]; exact hc
    · rw [List.pairwise_append]
      refine ⟨h.2,List.pairwise_singleton _ _,fun x hx y hy=>?_⟩
      rw [List.mem_singleton.1 hy]
      obtain ⟨j,hj,rfl⟩:=List.getElem_of_mem hx
      have:=hn j hj
      rwa [show nh.getD j default=nh[j] by simp [List.getD,hj]] at this
/-- a list ag4 twins is not aio ajf one VX holds it -/
theorem Q0 {α:Type}:∀ (l D:List α),l.Pairwise (·≠·)→(∀ x∈l,x∈D)→l.length≤D.length
  | [],D,_,_=>Nat.zero_le _
  | x :: r,D,hp,hs=>by
    classical
    have hx:x∈D:=hs x (by simp)
    rw [List.pairwise_cons] at hp
    have:=Q0 r (D.erase x) hp.2 (fun y hy=>(List.mem_erase_of_ne (fun e=>hp.1 y hy e.symm)).2 (hs y (by simp [hy])))
    rw [List.length_erase_of_mem hx] at this
    have JB:0 < D.length:=List.length_pos_of_mem hx
    simp only [List.length_cons]
    omega
def U9 (x:Claim):Int × Int × Int:=(x.aW,x.part,x.sign)
theorem NT.len {l:List Claim} {a:ba} {nh:List Claim} (h:NT l a nh) {D:List (Int × Int × Int)} (hD:∀ x∈l,U9 x∈D):nh.length≤D.length:=by
  have:=Q0 (nh.map U9) D ?_ ?_
  · simpa using this
  · rw [List.pairwise_map]
    refine List.Pairwise.imp_of_mem ?_ h.2
    intro x y hx hy rl e
    have hx:=(h.1 x hx).1
    have hy:=(h.1 y hy).1
    simp only [U9,Prod.mk.injEq] at e
    exact rl ⟨e.1,hx.1.trans hy.1.symm,e.2.1,e.2.2,hx.2.1.trans hy.2.1.symm⟩
  · intro z hz
    obtain ⟨c,hc,rfl⟩:=List.mem_map.1 hz
    obtain ⟨x,hx,e1,e2,e3,-⟩:=(h.1 c hc).2.1
    have:=hD x hx
    rwa [show U9 x=U9 c by simp [U9,e1,e2,e3]] at this
/-- Jw Sx while Jw LJ goes over afq -/
def HO (l:List Claim) (a:ba) (st:Bool) (k:Nat) (out nh:List Claim):Prop :=
  out.length=l.length∧(∀ i,i < l.length→out.getD i default=if i < k then gh a st (l.getD i default) else l.getD i default)∧NT l a nh
theorem HO.init (l:List Claim) (a:ba) (st:Bool):HO l a st 0 l []:=⟨rfl,fun i _=>by simp,fun c hc=>by simp at hc,.nil⟩
theorem HO.skip {l:List Claim} {a:ba} {st:Bool} {k:Nat} {out nh:List Claim} (h:HO l a st k out nh) (hk:k < l.length) (hm:dt a st (l.getD k default)=false):HO l a st (k+1) out nh:=by
  refine ⟨h.1,fun i hi=>?_,h.2.2⟩
  rw [h.2.1 i hi]
  by_cases hik:i=k
  · subst hik; rw [if_neg (Nat.lt_irrefl i),if_pos (Nat.lt_succ_self i)]; unfold gh; rw [hm]; rfl
  · by_cases h1:i < k
    · rw [if_pos h1,if_pos (by omega)]
    · rw [if_neg h1,if_neg (by omega)]
theorem HO.meet {l:List Claim} {a:ba} {st:Bool} {k:Nat} {out nh agx:List Claim} (h:HO l a st k out nh) (hk:k < l.length) (hm:dt a st (l.getD k default)=true) (hi:NT l a agx) :
    HO l a st (k+1) (out.set k { out.getD k default with sum:=au (bW 0 (l.getD k default).sum - iU a (l.getD k default)) }) agx:=by
  have Th:=h.2.1 k hk
  rw [if_neg (Nat.lt_irrefl k)] at Th
  refine ⟨by rw [List.length_set]; exact h.1,fun i hi=>?_,hi⟩
  rw [FE (by rw [h.1]; exact hi)]
  by_cases hik:k=i
  · subst hik; rw [if_pos rfl,if_pos (by omega),Th]; unfold gh; rw [hm]; rfl
  · rw [if_neg hik,h.2.1 i hi]
    by_cases h1:i < k
    · rw [if_pos h1,if_pos (by omega)]
    · rw [if_neg h1,if_neg (by omega)]
theorem Va {l:List Claim} {a:ba} {c:Claim} (hc:c∈l) (hd:c.aW≠a.dS) (s:Int) (hs:s=iU a c):Sub l a { c with az:=a.dS,cz:=a.at_,sum:=s }:=by
  subst hs
  refine ⟨⟨rfl,rfl,hd⟩,⟨c,hc,rfl,rfl,rfl,rfl⟩,fun hP=>?_⟩
  have:=(hP c hc).1
  refine ⟨?_,(hP c hc).2⟩
  unfold nL at *
  show 0≤iU a c∧iU a c≤1099511627776
  unfold iU cS bW
  constructor <;> (repeat' split) <;> omega
/-- Jw Sx while Jw new mT are aip to afq -/
def Inv1 (a:ba) (m nh:List Claim) (k:Nat) (v:List Claim):Prop :=
  (m.length≤v.length∧v.length≤m.length+k)∧(∀ i,i < m.length→DA (v.getD i default) (m.getD i default)∧((m.getD i default).az≠a.dS→v.getD i default=m.getD i default)) ∧
    (∀ i,m.length≤i→i < v.length→∃ c∈nh,DA (v.getD i default) c)∧((∀ x∈m,NS x)→(∀ x∈nh,NS x)→∀ x∈v,NS x)
theorem Inv1.init (a:ba) (m nh:List Claim):Inv1 a m nh 0 m:=⟨⟨Nat.le_refl _,Nat.le_refl _⟩,fun i hi=>⟨DA.rfl' _,fun _=>rfl⟩,fun i h1 h2=>absurd h2 (by omega),fun h _=>h⟩
theorem abB {c x:Claim} (hc:NS c) (hx:NS x):NS (fJ c x):=by
  refine ⟨?_,Xg hx.2 hc.2⟩
  unfold NS nL at *
  show 0≤cS _ _∧cS _ _≤_
  rw [ar (by omega) (by omega)]
  unfold cS; split <;> omega
theorem Inv1.step {a:ba} {m nh v x:List Claim} {k:Nat} {c:Claim} (h:Inv1 a m nh k v) (hc:c∈nh) (hw:c.az=a.dS) (hm:sM (fJ c) v c x):Inv1 a m nh (k+1) x:=by
  obtain ⟨⟨h1,h2⟩,h3,h4,h5⟩:=h
  rcases hm with ⟨i,hi,hk,rfl⟩ | ⟨hn,rfl⟩
  · have hl:DA (fJ c (v.getD i default)) (v.getD i default):=⟨⟨rfl,rfl,rfl,rfl,rfl⟩,rfl,rfl⟩
    refine ⟨⟨by simpa using h1,by rw [List.length_set]; omega⟩,fun j hj=>?_,fun j hj GC=>?_,fun hP hQ z hz=>?_⟩
    · rw [FE (by omega)]
      split
      · subst_vars
        refine ⟨hl.trans (h3 _ hj).1,fun rl=>absurd ?_ rl⟩
        have e2:=hk.2.1
        have e3:=(h3 _ hj).1.1.2.1
        rw [← e3,e2,hw]
      · exact h3 j hj
    · rw [List.length_set] at GC
      rw [FE GC]
      split
      · subst_vars
        obtain ⟨d,hd,e⟩:=h4 _ hj GC
        exact ⟨d,hd,hl.trans e⟩
      · exact h4 j hj GC
    · rcases U8 hz with rfl | hz
      · exact abB (hQ c hc) (h5 hP hQ _ (mJ hi))
      · exact h5 hP hQ z hz
  · have e:∀ j,j < v.length→(v++[c]).getD j default=v.getD j default:=fun j hj=>by simp [List.getD,List.getElem?_append_left hj]
    refine ⟨⟨by simp; omega,by simp; omega⟩,fun j hj=>?_,fun j hj GC=>?_,fun hP hQ z hz=>?_⟩
    · rw [e j (by omega)]; exact h3 j hj
    · by_cases hjv:j < v.length
      · rw [e j hjv]; exact h4 j hj hjv
      · have:j=v.length:=by simp at GC; omega
        subst this
        exact ⟨c,hc,by simp [List.getD]; exact DA.rfl' _⟩
    · rcases List.mem_append.1 hz with hz | hz
      · exact h5 hP hQ z hz
      · rw [List.mem_singleton.1 hz]; exact hQ c hc
/-- YN a LJ makes of Sx -/
structure yT (l:List Claim) (a:ba) (st:Bool) (out:List Claim):Prop where
  len:l.length≤out.length
  old:∀ i,i < l.length→DA (out.getD i default) (l.getD i default)∧((l.getD i default).az≠a.dS→out.getD i default=gh a st (l.getD i default))
  new:∀ i,l.length≤i→i < out.length→(out.getD i default).az=a.dS∧(out.getD i default).cz=a.at_∧(out.getD i default).aW≠a.dS∧∃ x∈l,x.aW=(out.getD i default).aW∧x.part=(out.getD i default).part∧x.sign=(out.getD i default).sign∧x.aE=(out.getD i default).aE
  acN:(∀ x∈l,NS x)→∀ x∈out,NS x
  few:∀ D:List (Int × Int × Int),(∀ x∈l,U9 x∈D)→out.length≤l.length+D.length
theorem FF (a:ba) (st:Bool) (x:Claim):DA (gh a st x) x:=by
  unfold gh
  cases dt a st x
  · exact DA.rfl' x
  · exact ⟨⟨rfl,rfl,rfl,rfl,rfl⟩,rfl,rfl⟩
theorem LK {a:ba} {st:Bool} {x:Claim} (h:NS x):NS (gh a st x):=by
  unfold gh
  cases dt a st x
  · exact h
  · refine ⟨?_,h.2⟩
    unfold NS nL at *
    have h1:0≤iU a x∧iU a x≤x.sum:=by unfold iU cS bW; constructor <;> (repeat' split) <;> omega
    have h2:bW 0 x.sum=x.sum:=by unfold bW; split <;> omega
    show 0≤au _∧au _≤_
    rw [h2,ar (by omega) (by omega)]
    omega
theorem yT.mk' {l:List Claim} {a:ba} {st:Bool} {m nh v:List Claim} {k n:Nat} (h0:HO l a st n m nh) (hn:n=l.length) (h1:Inv1 a m nh k v) (hk:k≤nh.length):yT l a st v:=by
  subst hn
  obtain ⟨hl,hr,hi⟩:=h0
  obtain ⟨⟨h11,h12⟩,h13,h14,h15⟩:=h1
  have hr':∀ i,i < l.length→m.getD i default=gh a st (l.getD i default):=fun i h=>by rw [hr i h,if_pos h]
  refine ⟨by omega,fun i h=>?_,fun i h h2=>?_,fun hP=>?_,fun D hD=>?_⟩
  · have h3:=h13 i (by omega)
    rw [hr' i h] at h3
    refine ⟨h3.1.trans (FF a st _),fun rl=>h3.2 ?_⟩
    rw [(FF a st (l.getD i default)).1.2.1]
    exact rl
  · obtain ⟨c,hc,e⟩:=h14 i (by omega) h2
    obtain ⟨⟨k1,k2,k3⟩,⟨x,hx,e1,e2,e3,e4⟩,-⟩:=hi.1 c hc
    obtain ⟨⟨f1,f2,f3,f4,f5⟩,-,f6⟩:=e
    exact ⟨f2.trans k1,f5.trans k2,fun z=>k3 (f1 ▸ z),x,hx,e1.trans f1.symm,e2.trans f3.symm,e3.trans f4.symm,e4.trans f6.symm⟩
  · refine h15 (fun x hx=>?_) (fun x hx=>(hi.1 x hx).2.2 hP)
    obtain ⟨i,fp,rfl⟩:=List.getElem_of_mem hx
    have:=hr' i (by omega)
    rw [show m.getD i default=m[i] by simp [List.getD,fp]] at this
    rw [this]
    exact LK (hP _ (mJ (by omega)))
  · have:=hi.len hD
    omega
theorem Sy {x c:Claim}:((x.aW == c.aW)&&((x.az == c.az)&&((x.part == c.part)&&((x.sign == c.sign)&&((x.cz == c.cz)&&true)))))=true↔dy x c:=by
  simp only [Bool.and_eq_true,beq_iff_eq,Bool.and_true]
  exact Iff.rfl
theorem Yn {l:List Claim} {i:Nat} (h:i < l.length) (y:Claim) (s:Int):(l.set i y).set i { (l.set i y).getD i default with state:=s }=l.set i { y with state:=s }:=by
  rw [List.set_set,FE h,if_pos rfl]
theorem Yo {l:List Claim} {c:Claim} {i:Nat} (h:∀ q,q < i→¬ dy (l.getD q default) c) (hk:(((l.getD i default).aW == c.aW)&&(((l.getD i default).az == c.az)&&(((l.getD i default).part == c.part)&&(((l.getD i default).sign == c.sign)&&(((l.getD i default).cz == c.cz)&&true)))))=false):∀ q,q < i+1→¬ dy (l.getD q default) c:=by
  intro q hq e
  by_cases h1:q < i
  · exact h q h1 e
  · obtain rfl:q=i:=by omega
    rw [Sy.2 e] at hk
    cases hk
theorem sM.len {f:Claim→Claim} {l x:List Claim} {c:Claim} (h:sM f l c x):x.length≤l.length+1:=by
  rcases h with ⟨i,hi,-,rfl⟩ | ⟨-,rfl⟩
  · rw [List.length_set]; omega
  · simp
def ni (l:List Claim) (c_:Claim):Sk ((List Claim)) :=
 .bind true (fun b1=>∀ q,q < l.length→¬ dy (l.getD q default) c_)
 (.loop (default:Sum ((List Claim)) (Unit)) (fun i2=>i2≤l.length∧∀ q,q < i2→¬ dy (l.getD q default) c_) (fun i2=>l.length - i2) (0:Nat)
 (fun (i2:Nat)=>⟨[(9,iv ((i2:Nat):Int))],[]⟩) fun i2 =>
 .lt 0 0 i2 l.length
 (.r 3 (.al (.p (bN ((i2:Nat):Int) l.length)) (.p (i2 < l.length))) fun _ =>
 .r 4 (.dep ((sm (l.getD i2 default)).c) fun _=>(sm c_).c) fun p6 =>
 .br ((p6.1.aW == p6.2.aW)&&((p6.1.az == p6.2.az)&&((p6.1.part == p6.2.part)&&((p6.1.sign == p6.2.sign)&&((p6.1.cz == p6.2.cz)&&true)))))
 (.r 5 (.al (.p (bN ((i2:Nat):Int) l.length)) (.al (.o [.dn (uj Claim.E l i2 ({ l.getD i2 default with sum:=bW ((l.getD i2 default).sum) c_.sum }))]) (.p (i2 < l.length)))) fun _ =>
 .wn 777776 l.length (l.set i2 ({ l.getD i2 default with sum:=bW ((l.getD i2 default).sum) c_.sum })).length <|
 .r 6 (.nK ((ri c_.state ((l.getD i2 default).state)).c) fun x5=>.al (.p (bN ((i2:Nat):Int) ((l.set i2 ({ l.getD i2 default with sum:=bW ((l.getD i2 default).sum) c_.sum })).length))) (.al (.o [.dn (uj Claim.E (l.set i2 ({ l.getD i2 default with sum:=bW ((l.getD i2 default).sum) c_.sum })) i2 ({ (l.set i2 ({ l.getD i2 default with sum:=bW ((l.getD i2 default).sum) c_.sum })).getD i2 default with state:=x5 }))]) (.p (i2 < (l.set i2 ({ l.getD i2 default with sum:=bW ((l.getD i2 default).sum) c_.sum })).length)))) fun x5 =>
 .wn 777776 (l.set i2 ({ l.getD i2 default with sum:=bW ((l.getD i2 default).sum) c_.sum })).length ((l.set i2 ({ l.getD i2 default with sum:=bW ((l.getD i2 default).sum) c_.sum })).set i2 ({ (l.set i2 ({ l.getD i2 default with sum:=bW ((l.getD i2 default).sum) c_.sum })).getD i2 default with state:=x5 })).length <|
 .fin (.inl (.inl ((l.set i2 ({ l.getD i2 default with sum:=bW ((l.getD i2 default).sum) c_.sum })).set i2 ({ (l.set i2 ({ l.getD i2 default with sum:=bW ((l.getD i2 default).sum) c_.sum })).getD i2 default with state:=x5 })))))
 (.nx 8 9 i2 (i2+1)))
 (.fin (.inl (.inr ()))))
 (fun (_:Unit)=>⟨[],[]⟩) fun _ =>
 .r 9 (.al (.o [.dn (dH Claim.E [c_])]) (.al (.o [.dn (kE Claim.E l [c_])]) (.al (.t (Claim.E.mT [c_])) (.p (vE l.length [c_].length 72))))) fun _ =>
 .fin (l++[c_])
def py l c_:=(ni l c_).val
theorem PY (l:List Claim) (c_:Claim):(ni l c_).cC (fun (x:(List Claim))=>sM (fG c_) l c_ x):=by
  refine Sk.aP _ ?_
  unfold ni
  simp only [Sk.ct,Sk.aA,reduceCtorEq,ON,kk,kp,ri,sm,BH,forall_eq,maxLen]
  refine ⟨⟨⟨Nat.zero_le _,fun q hq=>absurd hq (by omega)⟩,fun i hi=>⟨fun hc _=>⟨fun hk _=>?_,fun hk _=>⟨⟨?_,Yo hi.2 hk⟩,by simp only [LN] at hc; omega⟩⟩,fun hc=>?_⟩⟩,fun _ hb _=>.inr ⟨hb,rfl⟩⟩
  all_goals simp only [LN] at hc
  · exact .inl ⟨i,by omega,Sy.1 hk,Yn (by omega) _ _⟩
  · omega
  · exact fun q hq=>hi.2 q (by omega)

theorem A5 (l:List Claim) (c_:Claim):(fun (x:(List Claim))=>sM (fG c_) l c_ x) (py l c_):=have h:=Sk.cI _ (PY l c_); h
theorem Sz (l:List Claim) (c_:Claim) (hl:l.length≤1000000000000):(ni l c_).a6 (fun _=>True):=by
  refine Sk.aG _ ?_
  unfold ni
  simp only [Sk.gL,Sk.aA,reduceCtorEq,ON,kk,kp,ri,sm,BH,forall_eq,maxLen]
  refine ⟨⟨⟨Nat.zero_le _,fun q hq=>absurd hq (by omega)⟩,fun i hi hm=>⟨fun hc=>?_,fun hc q hq=>hi.2 q (by simp only [LN] at hc; omega)⟩⟩,fun b hb=>?_⟩
  · simp only [LN] at hc
    refine ⟨⟨⟨by omega,by omega⟩,by omega⟩,fun _=>⟨fun hk=>?_,fun hk _=>⟨(ar (by omega) (by omega)).trans (by omega),⟨by omega,Yo hi.2 hk⟩,by omega⟩⟩⟩
    simp only [List.length_set]
    refine ⟨⟨⟨by omega,by omega⟩,by omega⟩,fun _=>?_⟩
    (repeat' first | exact trivial | (apply And.intro) | (intro h))
    all_goals first | rfl | trivial | omega
  · simp only [List.length_cons,List.length_nil]
    omega

theorem PZ (l:List Claim) (c_:Claim) (hl:l.length≤1000000000000):eC Tryz.prog 107 [ow 777776 l,av c_.cells] [(777776,aU 53 9 Claim.cells l)] (ow 777777 (py l c_)) [(777777,aU 53 9 Claim.cells (py l c_))] :=
  eC.sk tok mixed (fun x=>ow 777777 x) (fun x=>[(777777,aU 53 9 Claim.cells x)]) Tryz.func107 rfl (by kernel_rfl) 3000 (ni l c_) (by kernel_rfl) (Sz l c_ hl)
def nj (κ κ':Nat) (l:List Claim) (c_:Claim):uk ((List Claim)):=⟨Tryz.prog,107,[ow κ l,av c_.cells],[(κ,aU 53 9 Claim.cells l)],fun x=>ow κ' x,fun x=>[(κ',aU 53 9 Claim.cells x)],py l c_,(l.length≤1000000000000),fun h=>eC.WC κ rfl (eC.WB κ' (PZ l c_ h)),fun (x:(List Claim))=>sM (fG c_) l c_ x,A5 l c_⟩
def pz (l:List Claim) (c_:Claim):Sk ((List Claim)) :=
 .bind true (fun b1=>∀ q,q < l.length→¬ dy (l.getD q default) c_)
 (.loop (default:Sum ((List Claim)) (Unit)) (fun i2=>i2≤l.length∧∀ q,q < i2→¬ dy (l.getD q default) c_) (fun i2=>l.length - i2) (0:Nat)
 (fun (i2:Nat)=>⟨[(9,iv ((i2:Nat):Int))],[]⟩) fun i2 =>
 .lt 0 0 i2 l.length
 (.r 3 (.al (.p (bN ((i2:Nat):Int) l.length)) (.p (i2 < l.length))) fun _ =>
 .r 4 (.dep ((sm (l.getD i2 default)).c) fun _=>(sm c_).c) fun p6 =>
 .br ((p6.1.aW == p6.2.aW)&&((p6.1.az == p6.2.az)&&((p6.1.part == p6.2.part)&&((p6.1.sign == p6.2.sign)&&((p6.1.cz == p6.2.cz)&&true)))))
 (.r 5 (.al (.p (bN ((i2:Nat):Int) l.length)) (.al (.o [.dn (uj Claim.E l i2 ({ l.getD i2 default with sum:=cS 1099511627776 (au (((l.getD i2 default).sum)+c_.sum)) }))]) (.p (i2 < l.length)))) fun _ =>
 .wn 777776 l.length (l.set i2 ({ l.getD i2 default with sum:=cS 1099511627776 (au (((l.getD i2 default).sum)+c_.sum)) })).length <|
 .r 6 (.nK ((ri ((l.getD i2 default).state) c_.state).c) fun x5=>.al (.p (bN ((i2:Nat):Int) ((l.set i2 ({ l.getD i2 default with sum:=cS 1099511627776 (au (((l.getD i2 default).sum)+c_.sum)) })).length))) (.al (.o [.dn (uj Claim.E (l.set i2 ({ l.getD i2 default with sum:=cS 1099511627776 (au (((l.getD i2 default).sum)+c_.sum)) })) i2 ({ (l.set i2 ({ l.getD i2 default with sum:=cS 1099511627776 (au (((l.getD i2 default).sum)+c_.sum)) })).getD i2 default with state:=x5 }))]) (.p (i2 < (l.set i2 ({ l.getD i2 default with sum:=cS 1099511627776 (au (((l.getD i2 default).sum)+c_.sum)) })).length)))) fun x5 =>
 .wn 777776 (l.set i2 ({ l.getD i2 default with sum:=cS 1099511627776 (au (((l.getD i2 default).sum)+c_.sum)) })).length ((l.set i2 ({ l.getD i2 default with sum:=cS 1099511627776 (au (((l.getD i2 default).sum)+c_.sum)) })).set i2 ({ (l.set i2 ({ l.getD i2 default with sum:=cS 1099511627776 (au (((l.getD i2 default).sum)+c_.sum)) })).getD i2 default with state:=x5 })).length <|
 .fin (.inl (.inl ((l.set i2 ({ l.getD i2 default with sum:=cS 1099511627776 (au (((l.getD i2 default).sum)+c_.sum)) })).set i2 ({ (l.set i2 ({ l.getD i2 default with sum:=cS 1099511627776 (au (((l.getD i2 default).sum)+c_.sum)) })).getD i2 default with state:=x5 })))))
 (.nx 8 9 i2 (i2+1)))
 (.fin (.inl (.inr ()))))
 (fun (_:Unit)=>⟨[],[]⟩) fun _ =>
 .r 9 (.al (.o [.dn (dH Claim.E [c_])]) (.al (.o [.dn (kE Claim.E l [c_])]) (.al (.t (Claim.E.mT [c_])) (.p (vE l.length [c_].length 72))))) fun _ =>
 .fin (l++[c_])
def jA l c_:=(pz l c_).val
theorem SA (l:List Claim) (c_:Claim):(pz l c_).cC (fun (x:(List Claim))=>sM (fJ c_) l c_ x):=by
  refine Sk.aP _ ?_
  unfold pz
  simp only [Sk.ct,Sk.aA,reduceCtorEq,ON,kk,kp,ri,sm,BH,forall_eq,maxLen]
  refine ⟨⟨⟨Nat.zero_le _,fun q hq=>absurd hq (by omega)⟩,fun i hi=>⟨fun hc _=>⟨fun hk _=>?_,fun hk _=>⟨⟨?_,Yo hi.2 hk⟩,by simp only [LN] at hc; omega⟩⟩,fun hc=>?_⟩⟩,fun _ hb _=>.inr ⟨hb,rfl⟩⟩
  all_goals simp only [LN] at hc
  · exact .inl ⟨i,by omega,Sy.1 hk,Yn (by omega) _ _⟩
  · omega
  · exact fun q hq=>hi.2 q (by omega)

theorem CN (l:List Claim) (c_:Claim):(fun (x:(List Claim))=>sM (fJ c_) l c_ x) (jA l c_):=have h:=Sk.cI _ (SA l c_); h
theorem Vb (l:List Claim) (c_:Claim) (hl:l.length≤1000000000000):(pz l c_).a6 (fun _=>True):=by
  refine Sk.aG _ ?_
  unfold pz
  simp only [Sk.gL,Sk.aA,reduceCtorEq,ON,kk,kp,ri,sm,BH,forall_eq,maxLen]
  refine ⟨⟨⟨Nat.zero_le _,fun q hq=>absurd hq (by omega)⟩,fun i hi hm=>⟨fun hc=>?_,fun hc q hq=>hi.2 q (by simp only [LN] at hc; omega)⟩⟩,fun b hb=>?_⟩
  · simp only [LN] at hc
    refine ⟨⟨⟨by omega,by omega⟩,by omega⟩,fun _=>⟨fun hk=>?_,fun hk _=>⟨(ar (by omega) (by omega)).trans (by omega),⟨by omega,Yo hi.2 hk⟩,by omega⟩⟩⟩
    simp only [List.length_set]
    refine ⟨⟨⟨by omega,by omega⟩,by omega⟩,fun _=>?_⟩
    (repeat' first | exact trivial | (apply And.intro) | (intro h))
    all_goals first | rfl | trivial | omega
  · simp only [List.length_cons,List.length_nil]
    omega

theorem SB (l:List Claim) (c_:Claim) (hl:l.length≤1000000000000):eC Tryz.prog 108 [ow 777776 l,av c_.cells] [(777776,aU 53 9 Claim.cells l)] (ow 777777 (jA l c_)) [(777777,aU 53 9 Claim.cells (jA l c_))] :=
  eC.sk tok mixed (fun x=>ow 777777 x) (fun x=>[(777777,aU 53 9 Claim.cells x)]) Tryz.func108 rfl (by kernel_rfl) 3000 (pz l c_) (by kernel_rfl) (Vb l c_ hl)
def pA (κ κ':Nat) (l:List Claim) (c_:Claim):uk ((List Claim)):=⟨Tryz.prog,108,[ow κ l,av c_.cells],[(κ,aU 53 9 Claim.cells l)],fun x=>ow κ' x,fun x=>[(κ',aU 53 9 Claim.cells x)],jA l c_,(l.length≤1000000000000),fun h=>eC.WC κ rfl (eC.WB κ' (SB l c_ h)),fun (x:(List Claim))=>sM (fJ c_) l c_ x,CN l c_⟩
def k6 (l:List Claim) (a:ba) (kind:Int) (bm:Bool):Sk ((List Claim) × (List Step)) :=
 .r 2 ((oI 21 l).c) fun x1 =>
 .bind true (fun b2=>HO l a bm l.length b2.1 b2.2.2∧b2.2.1.length≤l.length∧b2.2.2.length≤l.length)
 (.loop (default:Sum ((List Claim) × (List Step)) ((List Claim) × (List Step) × (List Claim))) (fun i3=>i3.2.2.2≤l.length∧HO l a bm i3.2.2.2 i3.1 i3.2.2.1∧i3.2.1.length≤i3.2.2.2∧i3.2.2.1.length≤i3.2.2.2) (fun i3=>l.length - i3.2.2.2) ((x1,[],[],0):(List Claim) × (List Step) × (List Claim) × Nat)
 (fun (i3:(List Claim) × (List Step) × (List Claim) × Nat)=>⟨[(8,ow 100006 i3.1),(9,ow 100007 i3.2.1),(11,ow 100008 i3.2.2.1),(24,iv ((i3.2.2.2:Nat):Int))],[(100006,aU 53 9 Claim.cells i3.1),(100007,aU 159 4 Step.cells i3.2.1),(100008,aU 53 9 Claim.cells i3.2.2.1)]⟩) fun i3 =>
 .lt 22 0 i3.2.2.2 l.length
 (.r 6 (.p (bN ((i3.2.2.2:Nat):Int) l.length)) fun _ =>
 .r 7 ((vU a bm (l.getD i3.2.2.2 default)).c) fun x4 =>
 .br (!x4)
 (.nx 14 24 i3.2.2.2 (i3.1,i3.2.1,i3.2.2.1,i3.2.2.2+1))
 (.r 9 (.al (.p (bN ((i3.2.2.2:Nat):Int) i3.1.length)) (.al (.o [.dn (uj Claim.E i3.1 i3.2.2.2 ({ i3.1.getD i3.2.2.2 default with sum:=au ((bW 0 ((l.getD i3.2.2.2 default).sum)) - (cS (bW 0 a.sum) (bW 0 ((l.getD i3.2.2.2 default).sum)))) }))]) (.p (i3.2.2.2 < i3.1.length)))) fun _ =>
 .wn 100006 i3.1.length (i3.1.set i3.2.2.2 ({ i3.1.getD i3.2.2.2 default with sum:=au ((bW 0 ((l.getD i3.2.2.2 default).sum)) - (cS (bW 0 a.sum) (bW 0 ((l.getD i3.2.2.2 default).sum)))) })).length <|
 .r 10 (.al (.o [.dn (dH Step.E [({ aW:=(l.getD i3.2.2.2 default).aW,az:=(l.getD i3.2.2.2 default).az,sign:=(l.getD i3.2.2.2 default).sign,sum:=cS (bW 0 a.sum) (bW 0 ((l.getD i3.2.2.2 default).sum)) }:Step)])]) (.al (.o [.dn (kE Step.E i3.2.1 [({ aW:=(l.getD i3.2.2.2 default).aW,az:=(l.getD i3.2.2.2 default).az,sign:=(l.getD i3.2.2.2 default).sign,sum:=cS (bW 0 a.sum) (bW 0 ((l.getD i3.2.2.2 default).sum)) }:Step)])]) (.al (.t (Step.E.mT [({ aW:=(l.getD i3.2.2.2 default).aW,az:=(l.getD i3.2.2.2 default).az,sign:=(l.getD i3.2.2.2 default).sign,sum:=cS (bW 0 a.sum) (bW 0 ((l.getD i3.2.2.2 default).sum)) }:Step)])) (.p (vE i3.2.1.length [({ aW:=(l.getD i3.2.2.2 default).aW,az:=(l.getD i3.2.2.2 default).az,sign:=(l.getD i3.2.2.2 default).sign,sum:=cS (bW 0 a.sum) (bW 0 ((l.getD i3.2.2.2 default).sum)) }:Step)].length 32))))) fun _ =>
 .br (((kind != 1)&&((((l.getD i3.2.2.2 default).eD) == 0)||(decide (((l.getD i3.2.2.2 default).sign) < a.at_))))&&(((l.getD i3.2.2.2 default).aW) != a.dS))
 (.r 13 ((nj 100008 90 i3.2.2.1 ({ l.getD i3.2.2.2 default with az:=a.dS,cz:=a.at_,sum:=cS (bW 0 a.sum) (bW 0 ((l.getD i3.2.2.2 default).sum)) })).c) fun x5 =>
 .r 14 .z fun _ =>
 .wi 24 (au (((i3.2.2.2:Nat):Int)+1)) ((i3.2.2.2+1:Nat):Int) <|
 .fin (.inr (i3.1.set i3.2.2.2 ({ i3.1.getD i3.2.2.2 default with sum:=au ((bW 0 ((l.getD i3.2.2.2 default).sum)) - (cS (bW 0 a.sum) (bW 0 ((l.getD i3.2.2.2 default).sum)))) }),i3.2.1++[({ aW:=(l.getD i3.2.2.2 default).aW,az:=(l.getD i3.2.2.2 default).az,sign:=(l.getD i3.2.2.2 default).sign,sum:=cS (bW 0 a.sum) (bW 0 ((l.getD i3.2.2.2 default).sum)) }:Step)],x5,i3.2.2.2+1)))
 (.r 14 .z fun _ =>
 .wi 24 (au (((i3.2.2.2:Nat):Int)+1)) ((i3.2.2.2+1:Nat):Int) <|
 .fin (.inr (i3.1.set i3.2.2.2 ({ i3.1.getD i3.2.2.2 default with sum:=au ((bW 0 ((l.getD i3.2.2.2 default).sum)) - (cS (bW 0 a.sum) (bW 0 ((l.getD i3.2.2.2 default).sum)))) }),i3.2.1++[({ aW:=(l.getD i3.2.2.2 default).aW,az:=(l.getD i3.2.2.2 default).az,sign:=(l.getD i3.2.2.2 default).sign,sum:=cS (bW 0 a.sum) (bW 0 ((l.getD i3.2.2.2 default).sum)) }:Step)],i3.2.2.1,i3.2.2.2+1)))))
 (.fin (.inl (.inr (i3.1,i3.2.1,i3.2.2.1)))))
 (fun (b2:(List Claim) × (List Step) × (List Claim))=>⟨[(8,ow 100003 b2.1),(9,ow 100004 b2.2.1),(11,ow 100005 b2.2.2)],[(100003,aU 53 9 Claim.cells b2.1),(100004,aU 159 4 Step.cells b2.2.1),(100005,aU 53 9 Claim.cells b2.2.2)]⟩) fun b2 =>
 .bind true (fun b6=>Inv1 a b2.1 b2.2.2 b2.2.2.length b6)
 (.loop (default:Sum ((List Claim) × (List Step)) ((List Claim))) (fun i7=>i7.2≤b2.2.2.length∧Inv1 a b2.1 b2.2.2 i7.2 i7.1) (fun i7=>b2.2.2.length - i7.2) ((b2.1,0):(List Claim) × Nat)
 (fun (i7:(List Claim) × Nat)=>⟨[(8,ow 100011 i7.1),(94,iv ((i7.2:Nat):Int))],[(100011,aU 53 9 Claim.cells i7.1)]⟩) fun i7 =>
 .lt 92 0 i7.2 b2.2.2.length
 (.r 17 (.al (.p (bN ((i7.2:Nat):Int) b2.2.2.length)) (.p (i7.2 < b2.2.2.length))) fun _ =>
 .r 18 ((pA 100011 100 i7.1 (b2.2.2.getD i7.2 default)).c) fun x8 =>
 .nx 19 94 i7.2 (x8,i7.2+1))
 (.fin (.inl (.inr i7.1))))
 (fun (b6:(List Claim))=>⟨[(8,ow 100010 b6)],[(100010,aU 53 9 Claim.cells b6)]⟩) fun b6 =>
 .fz 100004 <|
 .fin (b6,b2.2.1)
def jb l a kind bm:=(k6 l a kind bm).val
theorem P1 (l:List Claim) (a:ba) (kind:Int) (bm:Bool):(k6 l a kind bm).cC (fun (x:(List Claim) × (List Step))=>yT l a bm x.1):=by
  refine Sk.aP _ ?_
  unfold k6
  simp only [Sk.ct,Sk.aA,reduceCtorEq,ON,kk,kp,nj,pA,vU,oI,nj,pA,uk.c,jz,forall_eq,maxLen]
  intro hx
  refine ⟨⟨⟨Nat.zero_le _,by rw [hx.2]; exact HO.init l a bm,Nat.le_refl _,Nat.le_refl _⟩,fun i hi=>⟨fun hc _=>?_,fun hc=>?_⟩⟩,fun b hb=>⟨⟨⟨Nat.zero_le _,Inv1.init a _ _⟩,fun i hi=>⟨fun hc _ hM _=>?_,fun hc=>?_⟩⟩,fun b1 RM=>yT.mk' hb.1 rfl RM (Nat.le_refl _)⟩⟩
  all_goals simp only [LN] at hc
  · have hk:i.2.2.2 < l.length:=by omega
    have hi2:=hi.2.2
    refine ⟨fun hm _=>⟨⟨by omega,hi.2.1.skip hk (by rw [jz]; exact (Bool.not_eq_true' _).mp hm),by omega,by omega⟩,by omega⟩,fun hm _ _=>?_⟩
    have Ad:dt a bm (l.getD i.2.2.2 default)=true:=by rw [jz]; exact (Bool.not_eq_false' _).mp hm
    refine ⟨fun hg hM _=>⟨⟨by omega,hi.2.1.meet hk Ad (hi.2.1.2.2.group (Va (mJ hk) ?_ _ rfl) hM),?_,?_⟩,by omega⟩,fun _ _=>⟨⟨by omega,hi.2.1.meet hk Ad hi.2.1.2.2,?_,by omega⟩,by omega⟩⟩
    · simp only [LN] at hg
      exact hg.2
    · rw [List.length_append,List.length_singleton]; omega
    · exact Nat.le_trans hM.len (by omega)
    · rw [List.length_append,List.length_singleton]; omega
  · have e:i.2.2.2=l.length:=by omega
    rw [e] at hi
    exact hi.2
  · have hk:i.2 < b.2.2.length:=by omega
    have GK:=hb.1.2.2.1 _ (mJ hk)
    exact ⟨⟨by omega,hi.2.step (mJ hk) GK.1.1 hM⟩,by omega⟩
  · have e:i.2=b.2.2.length:=by omega
    rw [e] at hi
    exact hi.2

theorem NU (l:List Claim) (a:ba) (kind:Int) (bm:Bool):(fun (x:(List Claim) × (List Step))=>yT l a bm x.1) (jb l a kind bm):=have h:=Sk.cI _ (P1 l a kind bm); h
theorem SC (l:List Claim) (a:ba) (kind:Int) (bm:Bool) (hl:l.length≤1000000000):(k6 l a kind bm).a6 (fun _=>True):=by
  refine Sk.aG _ ?_
  unfold k6
  simp only [Sk.gL,Sk.aA,reduceCtorEq,ON,kk,kp,nj,pA,vU,oI,nj,pA,uk.c,jz,forall_eq,maxLen]
  refine ⟨hl,fun hx=>⟨⟨⟨Nat.zero_le _,by rw [hx.2]; exact HO.init l a bm,Nat.le_refl _,Nat.le_refl _⟩,fun i hi hmx=>⟨fun hc=>?_,fun hc=>?_⟩⟩,fun b hb=>⟨⟨Nat.zero_le _,Inv1.init a _ _⟩,fun i hi hmx=>⟨fun hc=>?_,fun hc=>?_⟩⟩⟩⟩
  all_goals simp only [LN] at hc
  · have hk:i.2.2.2 < l.length:=by omega
    have hi2:=hi.2.2
    have hol:=hi.2.1.1
    have hw:au ((i.2.2.2:Int)+1)=((i.2.2.2+1:Nat):Int):=(ar (by omega) (by omega)).trans (by omega)
    refine ⟨⟨by omega,by omega⟩,fun _=>⟨fun hm _=>⟨hw,⟨by omega,hi.2.1.skip hk (by rw [jz]; exact (Bool.not_eq_true' _).mp hm),by omega,by omega⟩,by omega⟩,fun hm=>⟨⟨⟨by omega,by omega⟩,by omega⟩,fun _=>⟨by rw [List.length_set],⟨by simp only [List.length_singleton]; omega,by simp only [List.length_singleton]; omega⟩,fun _=>?_⟩⟩⟩⟩
    have Ad:dt a bm (l.getD i.2.2.2 default)=true:=by rw [jz]; exact (Bool.not_eq_false' _).mp hm
    refine ⟨fun hg=>⟨by omega,fun hM _=>⟨hw,⟨by omega,hi.2.1.meet hk Ad (hi.2.1.2.2.group (Va (mJ hk) ?_ _ rfl) hM),?_,?_⟩,by omega⟩⟩,fun _ _=>⟨hw,⟨by omega,hi.2.1.meet hk Ad hi.2.1.2.2,?_,by omega⟩,by omega⟩⟩
    · simp only [LN] at hg
      exact hg.2
    · rw [List.length_append,List.length_singleton]; omega
    · exact Nat.le_trans hM.len (by omega)
    · rw [List.length_append,List.length_singleton]; omega
  · have e:i.2.2.2=l.length:=by omega
    rw [e] at hi
    exact hi.2
  · have hk:i.2 < b.2.2.length:=by omega
    have GK:=hb.1.2.2.1 _ (mJ hk)
    have hln:=hi.2.1
    have hol:=hb.1.1
    exact ⟨⟨⟨by omega,by omega⟩,hk⟩,fun _=>⟨by omega,fun hM _=>⟨(ar (by omega) (by omega)).trans (by omega),⟨by omega,hi.2.step (mJ hk) GK.1.1 hM⟩,by omega⟩⟩⟩
  · have e:i.2=b.2.2.length:=by omega
    rw [e] at hi
    exact hi.2

theorem P2 (l:List Claim) (a:ba) (kind:Int) (bm:Bool) (hl:l.length≤1000000000):eC Tryz.prog 86 [lv Claim.cells l,av a.cells,iv kind,bv bm] [] (.fj [ow 777777 (jb l a kind bm).1,lv Step.cells ((jb l a kind bm).2)]) [(777777,aU 53 9 Claim.cells (jb l a kind bm).1)] :=
  eC.sk tok mixed (fun x=>.fj [ow 777777 x.1,lv Step.cells x.2]) (fun x=>[(777777,aU 53 9 Claim.cells x.1)]) Tryz.func86 rfl (by kernel_rfl) 3000 (k6 l a kind bm) (by kernel_rfl) (SC l a kind bm hl)
def tA (κ:Nat) (l:List Claim) (a:ba) (kind:Int) (bm:Bool):iJ ((List Claim) × (List Step)):=⟨Tryz.prog,86,[lv Claim.cells l,av a.cells,iv kind,bv bm],fun x=>.fj [ow κ x.1,lv Step.cells x.2],fun x=>[(κ,aU 53 9 Claim.cells x.1)],jb l a kind bm,(l.length≤1000000000),fun h=>eC.aa2 κ rfl (P2 l a kind bm h),fun (x:(List Claim) × (List Step))=>yT l a bm x.1,NU l a kind bm⟩
theorem Vc {β Y γ:Type} (g:Y→List β) {f:List β→Y→γ ⊕ List β}:∀ (l:List Y) (s:List β),(∀ s y,y∈l→f s y=.inr (s++g y))→pJ f l s=.inr (s++l.flatMap g)
  | [],s,_=>by simp [pJ]
  | y :: r,s,h=>by
    simp only [pJ,h s y (by simp)]
    rw [Vc g r _ (fun s z hz=>h s z (by simp [hz]))]
    simp
theorem Vd {α β ι δ:Type} [Inhabited α] (l:List α) (g:α→List β) (pack:List β→Nat→ι) {f:ι→δ ⊕ ι} {d:δ} (e:List β→δ)
    (hs:∀ s i,i < l.length→f (pack s i)=.inr (pack (s++g (l.getD i default)) (i+1))) (he:∀ s,f (pack s l.length)=.inl (e s)) {n:Nat} (hn:l.length < n) (s:List β):iter f d n (pack s 0)=e (s++l.flatMap g):=by
  rw [oV (d:=d) l pack (fun x s=>.inr (s++g x)) e hs he hn s,qS (fun x s=>s++g x) e]
  congr 1
  clear hs he hn
  induction l generalizing s with
  | nil=>simp
  | cons x r ih=>rw [List.foldl_cons,ih]; simp
/-- a jL of an owner by a signature,if there is one -/
def qm (r:ah) (forum:Int) (f:ai) (day:Int) (c:fZ) (Tc:List c9) (ak:List Int) (part:Int) (o:nT) (sign:Int):List Claim :=
  bif (bJ c o sign ak Tc).1 == 0||(c.view.now.ae.getD sign.toNat default).dS == o.ke then [] else
  [{ aW:=(c.view.now.ae.getD sign.toNat default).dS,az:=o.ke,part:=part,sign:=sign,cz:=o.sign,eD:=(bJ c o sign ak Tc).2,sum:=(pw r forum f sign day).rest,aE:=f.aX.aE,state:=(bJ c o sign ak Tc).1 }]
def FG (r:ah) (forum:Int) (f:ai) (day:Int) (c:fZ) (Tc:List c9):List Claim :=
  c.view.lead.flatMap fun part=>(bp c (aq c.view part)).flatMap fun o=>(bz c.view part o.sign (aq c.view part)).flatMap fun sign=>qm r forum f day c Tc (aq c.view part) part o sign
theorem HP (r:ah) (forum:Int) (f:ai) (day:Int):cr r forum f day=bif !(aK r forum f day).2 then [] else FG r forum f day (aK r forum f day).1 (cu r forum f day):=by
  unfold cr lE
  dsimp +instances only [Sk.j3,Sk.lf,Sk.oa,Sk.kL,Sk.qF,Sk.sA,Sk.gN,Sk.aa3,iI.G3,kk,kp,Hv,uH,ra,qg,qh,wQ,kW,bn.Ao]
  cases (aK r forum f day).2 with
  | false=>rfl
  | true =>
    simp only [Bool.not_true,cond_false]
    refine Eq.trans (congrArg (fun q=>j2 q fun b=>b) (Vd (aK r forum f day).1.view.lead (fun part=>(bp (aK r forum f day).1 (aq (aK r forum f day).1.view part)).flatMap fun o=>(bz (aK r forum f day).1.view part o.sign (aq (aK r forum f day).1.view part)).flatMap fun sign=>qm r forum f day (aK r forum f day).1 (cu r forum f day) (aq (aK r forum f day).1.view part) part o sign) (fun s i=>(i,s)) (fun s=>Sum.inr s) (fun s i hi=>?_) (fun s=>?_) (by simp) [])) ?_
    · dsimp only
      rw [decide_eq_true (by omega),cond_true]
      rw [Vc (fun o=>(bz (aK r forum f day).1.view ((aK r forum f day).1.view.lead.getD i default) o.sign (aq (aK r forum f day).1.view ((aK r forum f day).1.view.lead.getD i default))).flatMap fun sign=>qm r forum f day (aK r forum f day).1 (cu r forum f day) (aq (aK r forum f day).1.view ((aK r forum f day).1.view.lead.getD i default)) ((aK r forum f day).1.view.lead.getD i default) o sign) _ s (fun s y _=>?_)]
      · rfl
      · refine Eq.trans (congrArg (fun q=>j2 (j2 q _) _) (Vd (bz (aK r forum f day).1.view ((aK r forum f day).1.view.lead.getD i default) y.sign (aq (aK r forum f day).1.view ((aK r forum f day).1.view.lead.getD i default))) (fun sign=>qm r forum f day (aK r forum f day).1 (cu r forum f day) (aq (aK r forum f day).1.view ((aK r forum f day).1.view.lead.getD i default)) ((aK r forum f day).1.view.lead.getD i default) y sign) (fun s i=>(i,s)) (fun s=>Sum.inr (((bz (aK r forum f day).1.view ((aK r forum f day).1.view.lead.getD i default) y.sign (aq (aK r forum f day).1.view ((aK r forum f day).1.view.lead.getD i default))).length:Int),s)) (fun s k hk=>?_) (fun s=>?_) (by simp) s)) ?_
        · dsimp only
          rw [decide_eq_true (by omega),cond_true]
          unfold qm
          cases (bJ (aK r forum f day).1 y ((bz (aK r forum f day).1.view ((aK r forum f day).1.view.lead.getD i default) y.sign (aq (aK r forum f day).1.view ((aK r forum f day).1.view.lead.getD i default))).getD k default) (aq (aK r forum f day).1.view ((aK r forum f day).1.view.lead.getD i default)) (cu r forum f day)).1 == 0||((aK r forum f day).1.view.now.ae.getD ((bz (aK r forum f day).1.view ((aK r forum f day).1.view.lead.getD i default) y.sign (aq (aK r forum f day).1.view ((aK r forum f day).1.view.lead.getD i default))).getD k default).toNat default).dS == y.ke with
          | true=>simp only [cond_true,List.append_nil]
          | false=>simp only [cond_false]
        · dsimp only
          rw [decide_eq_false (by omega),cond_false]
        · rfl
    · dsimp only
      rw [decide_eq_false (by omega),cond_false]
    · rw [List.nil_append]
      rfl
theorem vW {α β:Type} {g:α→List β} {m:Nat}:∀ (l:List α),(∀ x,x∈l→(g x).length≤m)→(l.flatMap g).length≤l.length * m
  | [],_=>by simp
  | x :: r,h=>by
    have h1:=vW r (fun y hy=>h y (by simp [hy]))
    have h2:=h x (by simp)
    rw [List.flatMap_cons,List.length_append,List.length_cons,Nat.succ_mul]
    omega
theorem NV {r:ah} {forum:Int} {f:ai} {day:Int} (hF:bu r f):(cr r forum f day).length≤67240:=by
  rw [HP]
  cases ht:(aK r forum f day).2 with
  | false=>simp
  | true =>
    rw [Bool.not_true,cond_false]
    have he:=(Fl r forum f day ht).1
    have hv:(aK r forum f day).1.view=aQ f day:=by rw [he]
    have ho:=CK f day
    have h40:=hF.2.1.1
    have hk:∀ part,(aq (aQ f day) part).length≤40:=fun part=>by
      have h:=(nC (aQ f day) part).1
      rw [ho.1] at h
      omega
    unfold FG
    rw [hv]
    refine Nat.le_trans (vW (m:=1640) _ fun part _=>Nat.le_trans (vW (m:=40) _ fun o _=>Nat.le_trans (vW (m:=1) _ fun s _=>?_) ?_) ?_) ?_
    · unfold qm
      cases (bJ (aK r forum f day).1 o s (aq (aQ f day) part) (cu r forum f day)).1 == 0||((aK r forum f day).1.view.now.ae.getD s.toNat default).dS == o.ke <;> simp
    · have h:=(si (aQ f day) part o.sign (aq (aQ f day) part)).1
      have h2:=mY f day
      rw [ho.2.1] at h
      omega
    · have h:=Dv (aK r forum f day).1 (aq (aQ f day) part)
      have h2:=hk part
      omega
    · have h:=ho.2.2.2.2
      omega
/-- how many ak lie from one signature to XW -/
def A6 (ak:List Int) (lo hi:Int):Nat:=(ak.filter fun l=>decide (l≤hi)&&decide (l≥lo)).length
def KA (ak:List Int) (hi:Int):Nat:=(ak.filter fun l=>decide (l≤hi)).length
theorem ZI (ak:List Int) (lo hi:Int) {i:Nat} (h:i < ak.length):A6 (ak.take (i+1)) lo hi=A6 (ak.take i) lo hi+(bif decide (ak.getD i default≤hi)&&decide (ak.getD i default≥lo) then 1 else 0):=by
  unfold A6
  rw [List.take_succ_eq_append_getElem h,List.filter_append,List.length_append,show ak.getD i default=ak[i] by simp [List.getD,h]]
  congr 1
  cases hc:decide (ak[i]≤hi)&&decide (ak[i]≥lo) with
  | true=>rw [List.filter_cons_of_pos (by simpa using hc)]; rfl
  | false=>rw [List.filter_cons_of_neg (by simpa using hc)]; rfl
theorem ZJ (ak:List Int) (hi:Int) {i:Nat} (h:i < ak.length):KA (ak.take (i+1)) hi=KA (ak.take i) hi+(bif decide (ak.getD i default≤hi) then 1 else 0):=by
  unfold KA
  rw [List.take_succ_eq_append_getElem h,List.filter_append,List.length_append,show ak.getD i default=ak[i] by simp [List.getD,h]]
  congr 1
  cases hc:decide (ak[i]≤hi) with
  | true=>rw [List.filter_cons_of_pos (by simpa using hc)]; rfl
  | false=>rw [List.filter_cons_of_neg (by simpa using hc)]; rfl
theorem acZ (ak:List Int) (lo hi:Int):A6 ak lo hi≤ak.length:=List.length_filter_le ..
theorem ac0 (ak:List Int) (hi:Int):KA ak hi≤ak.length:=List.length_filter_le ..
def sn (c:fZ):Bool:=(c.due != (-1))&&decide (c.view.day≥c.due)
theorem Ve (c:fZ) (o:nT) (sign:Int) (ak:List Int) (Tc:List c9) (hl:ak.length≤1000000):bJ c o sign ak Tc =
    bif (c.view.now.ae.getD (aJ c.view sign).toNat default).kind == 1 then (bif !(sn c) then (0,0) else (sh o.state (Tc.getD sign.toNat default).binds,0)) else
    bif ((!(sn c))&&(!(db c.view.now.aw)))||(!((Tc.getD (aJ c.view sign).toNat default).nR)) then (0,0) else
    (sh (sh o.state (Tc.getD sign.toNat default).binds) (A0 c.r c.forum c.view.all (aJ c.view sign) c.view.day).all,
      bif !(bV ak (aJ c.view sign)) then (1+(KA ak o.sign:Int)) else (A6 ak (aJ c.view sign) o.sign:Int)):=by
  unfold bJ im
  dsimp +instances only [Sk.j3,Sk.lf,Sk.oa,Sk.kL,Sk.qF,Sk.sA,Sk.gN,iI.G3,kk,kp,bn.Ao,bn.aeu,bn.aga,sL,rb,iR,aC,re]
  have agy:∀ d:(Int × Int) ⊕ (Int × Int),iter (fun i5:Int × Int × Nat=>bif decide (((i5.2.2:Nat):Int) < ((ak.length:Nat):Int)) then
      (j2 (bif decide ((ak.getD i5.2.2 default)≤o.sign) then (Sum.inr (au (i5.2.1+1)):(((Int × Int) ⊕ (Int × Int)) ⊕ (Int × Int × Nat)) ⊕ Int) else Sum.inr i5.2.1) fun b6=>bif (decide ((ak.getD i5.2.2 default)≤o.sign))&&(decide ((ak.getD i5.2.2 default)≥aJ c.view sign)) then Sum.inr (au (i5.1+1),b6,i5.2.2+1) else Sum.inr (i5.1,b6,i5.2.2+1))
      else Sum.inl (Sum.inr (i5.1,i5.2.1))) d (ak.length - 0+1) (0,1,0)=Sum.inr ((A6 ak (aJ c.view sign) o.sign:Int),1+(KA ak o.sign:Int)):=by
    intro d
    refine (Fz ak.length (fun n=>((A6 (ak.take n) (aJ c.view sign) o.sign:Int),1+(KA (ak.take n) o.sign:Int))) (fun s i=>(s.1,s.2,i)) (fun s=>Sum.inr s) (fun i hi=>?_) ?_ (m:=ak.length - 0+1) (by omega)).trans ?_
    · dsimp only
      rw [decide_eq_true (by omega),cond_true,ZI ak _ _ hi,ZJ ak _ hi]
      have h1:=acZ (ak.take i) (aJ c.view sign) o.sign
      have h2:=ac0 (ak.take i) o.sign
      have h3:(ak.take i).length≤ak.length:=by rw [List.length_take]; exact Nat.min_le_right _ _
      rw [ar (n:=(A6 (ak.take i) (aJ c.view sign) o.sign:Int)+1) (by omega) (by omega),ar (n:=1+(KA (ak.take i) o.sign:Int)+1) (by omega) (by omega)]
      cases decide (ak.getD i default≤o.sign) with
      | false=>simp [j2]
      | true =>
        cases decide (ak.getD i default≥aJ c.view sign) with
        | false=>simp [j2]; omega
        | true=>simp [j2]; omega
    · dsimp only
      rw [decide_eq_false (by omega),cond_false]
    · rw [List.take_length]
  cases (c.view.now.ae.getD (aJ c.view sign).toNat default).kind == 1 with
  | true=>rfl
  | false =>
    simp only [cond_false]
    show (bif ((!(sn c))&&(!(db c.view.now.aw)))||(!((Tc.getD (aJ c.view sign).toNat default).nR)) then (0,0) else _)=_
    cases ((!(sn c))&&(!(db c.view.now.aw)))||(!((Tc.getD (aJ c.view sign).toNat default).nR)) with
    | true=>rfl
    | false =>
      simp only [cond_false]
      refine (congrArg (fun q=>j2 q _) (agy _)).trans ?_
      show j2 (bif !(bV ak (aJ c.view sign)) then Sum.inr (1+(KA ak o.sign:Int)) else Sum.inr (A6 ak (aJ c.view sign) o.sign:Int)) _=_
      cases bV ak (aJ c.view sign) <;> rfl
theorem Vf (a b:Int):sh a b=0∨sh a b=1∨sh a b=2:=by
  have e:sh a b=bif (a == 0)||(b == 0) then 0 else bif (a == 2)||(b == 2) then 2 else 1:=by kernel_rfl
  rw [e]
  cases (a == 0)||(b == 0) <;> cases (a == 2)||(b == 2) <;> simp
theorem ZK (c:fZ) (o:nT) (sign:Int) (ak:List Int) (Tc:List c9) (hl:ak.length≤1000000):(bJ c o sign ak Tc).1=0∨(bJ c o sign ak Tc).1=1∨(bJ c o sign ak Tc).1=2:=by
  rw [Ve c o sign ak Tc hl]
  cases (c.view.now.ae.getD (aJ c.view sign).toNat default).kind == 1 with
  | true =>
    cases sn c with
    | false=>exact .inl rfl
    | true=>exact Vf _ _
  | false =>
    rw [cond_false]
    cases ((!(sn c))&&(!(db c.view.now.aw)))||(!((Tc.getD (aJ c.view sign).toNat default).nR)) with
    | true=>exact .inl rfl
    | false=>exact Vf _ _
theorem abC {r:ah} {forum:Int} {f:ai} {day:Int} (h:(aK r forum f day).2=true):(aK r forum f day).1=⟨aQ f day,r,forum,qa r forum f day⟩:=(Fl r forum f day h).1
theorem NW (f:ai) (day:Int):(aQ f day).all=f:=by rw [LH]
theorem uR (f:ai) (day:Int):(aQ f day).now=aj f day:=by rw [LH]
theorem abD (f:ai) (day:Int):(aQ f day).day=day:=by rw [LH]
/-- where a jL comes from -/
structure aiq (r:ah) (forum:Int) (f:ai) (day:Int) (c:Claim) (part:Int) (o:nT) (sign:Int):Prop where
  lead:part∈(aQ f day).lead
  own:o∈bp (aK r forum f day).1 (aq (aQ f day) part)
  li:sign∈bz (aQ f day) part o.sign (aq (aQ f day) part)
  st:(bJ (aK r forum f day).1 o sign (aq (aQ f day) part) (cu r forum f day)).1≠0
  ne:((aj f day).ae.getD sign.toNat default).dS≠o.ke
  eq:c = { aW:=((aj f day).ae.getD sign.toNat default).dS,az:=o.ke,part:=part,sign:=sign,cz:=o.sign,eD:=(bJ (aK r forum f day).1 o sign (aq (aQ f day) part) (cu r forum f day)).2,sum:=(pw r forum f sign day).rest,aE:=f.aX.aE,state:=(bJ (aK r forum f day).1 o sign (aq (aQ f day) part) (cu r forum f day)).1 }
theorem Jq {r:ah} {forum:Int} {f:ai} {day:Int} {c:Claim} (h:c∈cr r forum f day):((aK r forum f day).1=⟨aQ f day,r,forum,qa r forum f day⟩)∧∃ part o sign,aiq r forum f day c part o sign:=by
  rw [HP] at h
  cases ht:(aK r forum f day).2 with
  | false=>rw [ht] at h; cases h
  | true =>
    rw [ht,Bool.not_true,cond_false] at h
    have he:=abC ht
    refine ⟨he,?_⟩
    unfold FG at h
    have hv:(aK r forum f day).1.view=aQ f day:=by rw [he]
    rw [hv] at h
    obtain ⟨part,hp,h⟩:=List.mem_flatMap.1 h
    obtain ⟨o,ho,h⟩:=List.mem_flatMap.1 h
    obtain ⟨sign,hs,h⟩:=List.mem_flatMap.1 h
    unfold qm at h
    rw [hv,uR] at h
    cases hc:(bJ (aK r forum f day).1 o sign (aq (aQ f day) part) (cu r forum f day)).1 == 0||((aj f day).ae.getD sign.toNat default).dS == o.ke with
    | true=>rw [hc] at h; cases h
    | false =>
      rw [hc,cond_false,List.mem_singleton] at h
      simp only [Bool.or_eq_false_iff,beq_eq_false_iff_ne,ne_eq] at hc
      exact ⟨part,o,sign,hp,ho,hs,hc.1,hc.2,h⟩
theorem Q1 {f:ai} {day part:Int}:(aq (aQ f day) part).length≤f.ae.length:=by
  have:=(nC (aQ f day) part).1
  rwa [NW] at this
theorem Vg {r:ah} {forum:Int} {f:ai} {day:Int} {c:Claim} (hF:bu r f) (hR:r.cp) (h:c∈cr r forum f day) :
    (0≤c.sign∧c.sign < f.ae.length)∧(-1≤c.cz∧c.cz < f.ae.length)∧c.aW=(f.ae.getD c.sign.toNat default).dS∧c.az=(if 0≤c.cz then (f.ae.getD c.cz.toNat default).cw else f.aX.eH) ∧
      c.aW≠c.az∧(c.state=1∨c.state=2)∧nL c.sum∧c.aE=f.aX.aE:=by
  obtain ⟨he,part,o,sign,k⟩:=Jq h
  have hlen:=mY f day
  have hl:=Nz k.li
  have hm:=uP hl.2
  rw [uR] at hm
  have hll:(aq (aQ f day) part).length≤1000000:=by have:=Q1 (f:=f) (day:=day) (part:=part); have:=hF.2.1.1; omega
  have hs:=ZK (aK r forum f day).1 o sign (aq (aQ f day) part) (cu r forum f day) hll
  have jK:=k.st
  have ho:=(Xc k.own).1
  have hvn:(aK r forum f day).1.view.now=aj f day:=by rw [he]; exact uR f day
  rw [hvn,UD] at ho
  have hby:(o.sign = -1∧o.ke=f.aX.eH)∨(0≤o.sign∧o.sign < f.ae.length∧o.ke=(f.ae.getD o.sign.toNat default).cw):=by
    rcases ho with ho | ⟨h1,h2⟩
    · exact .inl ho
    · have hk:=HH h1
      rw [NW,abD] at hk
      have GK:=hF.adG hk.1 hk.2.1 hk.2.2.2.2.1
      rw [xt f day _ (by omega)] at h2
      exact .inr ⟨hk.1,hk.2.1,h2⟩
  have TF:pw r forum f sign day=pw r forum f sign day:=rfl
  have air:=xQ r forum f sign day ⟨hF,hR⟩
  obtain rfl:=k.eq
  refine ⟨⟨hm.1,by have:=hm.2.1; show sign < _; omega⟩,?_,?_,?_,k.ne,?_,air,rfl⟩
  · show -1≤o.sign∧o.sign < _
    rcases hby with hby | hby <;> omega
  · show ((aj f day).ae.getD sign.toNat default).dS=_
    rw [xt f day _ (by omega)]
  · show o.ke=if 0≤o.sign then (f.ae.getD o.sign.toNat default).cw else f.aX.eH
    rcases hby with hby | hby
    · rw [if_neg (by omega)]; exact hby.2
    · rw [if_pos hby.1]; exact hby.2.2
  · show (bJ _ _ _ _ _).1=1∨_
    rcases hs with hs | hs | hs
    · exact absurd hs jK
    · exact .inl hs
    · exact .inr hs
theorem Vh (r:ah) (forum:Int) (f:ai) (day:Int):(cr r forum f day).Pairwise (fun a b=>¬ (a.part=b.part∧a.sign=b.sign∧a.cz=b.cz)):=by
  rw [HP]
  cases ht:(aK r forum f day).2 with
  | false=>exact List.Pairwise.nil
  | true =>
    rw [Bool.not_true,cond_false]
    have he:=abC ht
    have hv:(aK r forum f day).1.view=aQ f day:=by rw [he]
    have key:∀ part o sign c,c∈qm r forum f day (aK r forum f day).1 (cu r forum f day) (aq (aQ f day) part) part o sign→c.part=part∧c.cz=o.sign∧c.sign=sign:=fun part o sign c h=>by
      unfold qm at h
      cases hc:(bJ (aK r forum f day).1 o sign (aq (aQ f day) part) (cu r forum f day)).1 == 0||((aK r forum f day).1.view.now.ae.getD sign.toNat default).dS == o.ke with
      | true=>rw [hc] at h; cases h
      | false=>rw [hc,cond_false,List.mem_singleton] at h; subst h; exact ⟨rfl,rfl,rfl⟩
    have ac1:∀ part o c,c∈((bz (aQ f day) part o.sign (aq (aQ f day) part)).flatMap fun sign=>qm r forum f day (aK r forum f day).1 (cu r forum f day) (aq (aQ f day) part) part o sign)→c.part=part∧c.cz=o.sign:=fun part o c h=>by
      obtain ⟨s,_,h⟩:=List.mem_flatMap.1 h
      exact ⟨(key _ _ _ _ h).1,(key _ _ _ _ h).2.1⟩
    unfold FG
    rw [hv,List.pairwise_flatMap]
    refine ⟨fun part _=>?_,(U1 f day).imp (fun {a b} hab x hx y hy h=>?_)⟩
    · rw [List.pairwise_flatMap]
      refine ⟨fun o _=>?_,(Sn (fun y hy=>(HH hy).1) (Sm _ _)).imp (fun {a b} hab x hx y hy h=>?_)⟩
      · rw [List.pairwise_flatMap]
        refine ⟨fun s _=>?_,(PN _ _ _ _).imp (fun {a b} hab x hx y hy h=>?_)⟩
        · unfold qm
          cases (bJ (aK r forum f day).1 o s (aq (aQ f day) part) (cu r forum f day)).1 == 0||((aK r forum f day).1.view.now.ae.getD s.toNat default).dS == o.ke <;> simp
        · have h1:=(key _ _ _ _ hx).2.2
          have h2:=(key _ _ _ _ hy).2.2
          omega
      · have h1:=(ac1 _ _ _ hx).2
        have h2:=(ac1 _ _ _ hy).2
        omega
    · obtain ⟨o,_,hx⟩:=List.mem_flatMap.1 hx
      obtain ⟨o',_,hy⟩:=List.mem_flatMap.1 hy
      have h1:=(ac1 _ _ _ hx).1
      have h2:=(ac1 _ _ _ hy).1
      omega
/-- an act VX is a LJ -/
def SD (g:ai) (a:ba):Prop:=a.kind=6∧0≤a.at_∧a.at_ < (g.ae.length:Int)
def Yp (g:ai) (st:Bool) (cw:Int):Prop:=st=true↔∀ q,q < g.ae.length→(g.ae.getD q default).dS≠cw
/-- Jw Sx after Jw first k aw -/
inductive yU (g:ai) (l0:List Claim):Nat→List Claim→Prop
  | zero:yU g l0 0 l0
  | skip {k:Nat} {l:List Claim}:yU g l0 k l→k < g.aw.length→¬ SD g (g.aw.getD k default)→yU g l0 (k+1) l
  | JK {k:Nat} {l out:List Claim} {st:Bool}:yU g l0 k l→k < g.aw.length→SD g (g.aw.getD k default)→Yp g st (g.aw.getD k default).cw→yT l (g.aw.getD k default) st out→yU g l0 (k+1) out
theorem abE {x y:Claim} (h:DA x y):U9 x=U9 y:=by simp only [U9,h.1.1,h.1.2.2.1,h.1.2.2.2.1]
theorem yU.U9 {g:ai} {l0 l:List Claim} {k:Nat} (h:yU g l0 k l):∀ x∈l,U9 x∈l0.map U9:=by
  induction h with
  | zero=>exact fun x hx=>List.mem_map.2 ⟨x,hx,rfl⟩
  | skip _ _ _ ih=>exact ih
  | @JK k l out st h _ _ _ ha ih =>
    intro x hx
    obtain ⟨i,hi,rfl⟩:=List.getElem_of_mem hx
    have e:out[i]=out.getD i default:=by simp [List.getD,hi]
    rw [e]
    by_cases h1:i < l.length
    · rw [abE (ha.old i h1).1]
      exact ih _ (mJ h1)
    · obtain ⟨-,-,-,x,hx,e1,e2,e3,-⟩:=ha.new i (by omega) hi
      have:=ih x hx
      rwa [show Go.Proofs.YtkbkoaoolojhaaaGreatDoor.U9 (out.getD i default)=Go.Proofs.YtkbkoaoolojhaaaGreatDoor.U9 x by simp only [Go.Proofs.YtkbkoaoolojhaaaGreatDoor.U9,e1,e2,e3]]
theorem yU.count {g:ai} {l0 l:List Claim} {k:Nat} (h:yU g l0 k l):l.length≤l0.length+k * l0.length∧k≤g.aw.length:=by
  induction h with
  | zero=>simp
  | skip _ _ _ ih=>exact ⟨by rw [Nat.succ_mul]; omega,by omega⟩
  | JK h _ _ _ ha ih =>
    have:=ha.few _ h.U9
    rw [List.length_map] at this
    exact ⟨by rw [Nat.succ_mul]; omega,by omega⟩
theorem NX {g:ai} {x:Bool} {t:Int} {p:Sign→Bool} (hp:∀ s,p s=true↔s.dS=t) (h:x=true↔∃ q,q < g.ae.length∧p (g.ae.getD q default)=true):Yp g (!x) t:=by
  constructor
  · intro hx q hq e
    have:=h.2 ⟨q,hq,(hp _).2 e⟩
    rw [this] at hx
    cases hx
  · intro hq
    cases hx:x with
    | false=>rfl
    | true =>
      obtain ⟨q,h1,h2⟩:=h.1 hx
      exact absurd ((hp _).1 h2) (hq q h1)
theorem Yq {g:ai} {a:ba} (h:((a.kind != 6)||decide (a.at_ < 0)||decide (a.at_≥((g.ae.length:Nat):Int)))=true):¬ SD g a:=by
  rintro ⟨h1,h2,h3⟩
  simp only [Bool.or_eq_true,bne_iff_ne,decide_eq_true_eq] at h
  rcases h with (h | h) | h
  · exact h h1
  · omega
  · omega
theorem Xh {g:ai} {a:ba} (h:((a.kind != 6)||decide (a.at_ < 0)||decide (a.at_≥((g.ae.length:Nat):Int)))=false):SD g a:=by
  simp only [Bool.or_eq_false_iff,bne_eq_false_iff_eq,decide_eq_false_iff_not] at h
  exact ⟨h.1.1,by omega,by omega⟩
def pa (r:ah) (forum:Int) (f:ai) (day:Int):Sk ((List Claim) × Unit) :=
 .r 1 ((bj f day).c) fun x1 =>
 .r 2 ((wR 29 r forum f day).c) fun x2 =>
 .r 3 (.o [.rP (mkM dI)]) fun _ =>
 .cl 30 ([]:List (Int × Int)) <|
 .bind true (fun b3=>yU x1 x2 x1.aw.length b3)
 (.loop (default:Sum ((List Claim) × Unit) ((List Claim))) (fun i4=>i4.2≤x1.aw.length∧yU x1 x2 i4.2 i4.1) (fun i4=>x1.aw.length - i4.2) ((x2,0):(List Claim) × Nat)
 (fun (i4:(List Claim) × Nat)=>⟨[(11,ow 100006 i4.1),(34,iv ((i4.2:Nat):Int))],[(100006,aU 53 9 Claim.cells i4.1)]⟩) fun i4 =>
 .lt 32 0 i4.2 x1.aw.length
 (.bind true (fun b5=>yU x1 x2 (i4.2+1) b5)
 (.r 6 (.p (bN ((i4.2:Nat):Int) x1.aw.length)) fun _ =>
 .br (((((x1.aw.getD i4.2 default).kind) != 6)||(decide (((x1.aw.getD i4.2 default).at_) < 0)))||(decide (((x1.aw.getD i4.2 default).at_)≥((x1.ae.length:Nat):Int))))
 (.fin (.inr i4.1))
 (.r 8 ((fY x1.ae (x1.aw.getD i4.2 default)).c) fun x6 =>
 .fz 100006 <|
 .r 9 (.al (.p (bN ((x1.aw.getD i4.2 default).at_) x1.ae.length)) ((tA 70 i4.1 (x1.aw.getD i4.2 default) ((x1.ae.getD (((x1.aw.getD i4.2 default).at_).toNat) default).kind) (!x6)).c)) fun x7 =>
 .r 10 (.o [.rP (mkM dB)]) fun _ =>
 .bt
 (.loop (default:Sum (Sum (Sum (Sum ((List Claim) × Unit) ((List Claim))) ((List Claim) × Nat)) ((List Claim))) (Int × (List (Int × Bool)))) (fun i9=>i9.1≤x7.2.length) (fun i9=>x7.2.length - i9.1) ((0,([]:List (Int × Bool))):Nat × (List (Int × Bool)))
 (fun (i9:Nat × (List (Int × Bool)))=>⟨[(76,iv ((i9.1:Nat):Int))],[(73,mpM dB i9.2)]⟩) fun i9 =>
 .lt 17 0 i9.1 x7.2.length
 (.r 13 (.p (bN ((i9.1:Nat):Int) x7.2.length)) fun _ =>
 .r 14 (.al (.t (I7 dB i9.2)) (.o [.rP (acG dB i9.2 ((x7.2.getD i9.1 default).az) true)])) fun _ =>
 .r 15 .z fun _ =>
 .wi 76 (au (((i9.1:Nat):Int)+1)) ((i9.1+1:Nat):Int) <|
 .fin (.inr (i9.1+1,tc i9.2 ((x7.2.getD i9.1 default).az) true)))
 (.fin (.inl (.inr (((i9.1:Nat):Int),i9.2)))))
 (fun (b8:Int × (List (Int × Bool)))=>⟨[(76,iv b8.1)],[(73,mpM dB b8.2)]⟩) fun b8 =>
 .bt
 (.mr b8.2.length (fun _=>True) (():Unit)
 (fun g11 s13=>⟨[],[(85,.it 73 b8.2.length s13)]⟩)
 (fun g15=>⟨[],[]⟩)
 (fun g11 i12 =>
 .JG <|
 .r 18 (.p (i12 < b8.2.length)) fun _ =>
 .op 30 fun m14 =>
 .r 19 (.al (.al (.t (I7 dI m14)) (.o [.cast 94 (getM dI m14 ((b8.2.getD i12 default).1) (0:Int))])) (.al (.t (I7 dI m14)) (.o [.rP (acG dI m14 ((b8.2.getD i12 default).1) (cS 1099511627776 (au ((EO m14 ((b8.2.getD i12 default).1) (0:Int))+((x1.aw.getD i4.2 default).sum)))))]))) fun _ =>
 .cl 30 (tc m14 ((b8.2.getD i12 default).1) (cS 1099511627776 (au ((EO m14 ((b8.2.getD i12 default).1) (0:Int))+((x1.aw.getD i4.2 default).sum))))) <|
 .fin ()) fun g15 =>
 .JH <|
 .fin (.inr ()))
 (fun (_:Unit)=>⟨[(85,.any)],[]⟩) fun _ =>
 .fin (.inr x7.1)))
 (fun (b5:(List Claim))=>⟨[(11,ow 100008 b5)],[(100008,aU 53 9 Claim.cells b5)]⟩) fun b5 =>
 .nx 21 34 i4.2 (b5,i4.2+1))
 (.fin (.inl (.inr i4.1))))
 (fun (b3:(List Claim))=>⟨[(11,ow 100004 b3)],[(100004,aU 53 9 Claim.cells b3)]⟩) fun b3 =>
 .fin (b3,())
def BI r forum f day:=(pa r forum f day).val
theorem Vi (r:ah) (forum:Int) (f:ai) (day:Int):(pa r forum f day).cC (fun (x:(List Claim) × Unit)=>yU (aj f day) (cr r forum f day) (aj f day).aw.length x.1):=by
  refine Sk.aP _ ?_
  unfold pa
  simp only [Sk.ct,Sk.aA,reduceCtorEq,ON,kk,kp,wR,tA,bj,fY,maxLen]
  intro x hx _ x1 Bu _
  refine ⟨⟨⟨Nat.zero_le _,.zero⟩,fun i hi=>⟨fun hc=>⟨fun _=>⟨fun hs=>?_,fun hs x4 _ h4 x5 _ h5 _=>⟨⟨Nat.zero_le _,fun j hj CW _ _ _=>?_⟩,fun b b1 _=>?_⟩⟩,fun b _ hb _=>?_⟩,fun hc=>?_⟩⟩,fun b hb=>?_⟩
  all_goals try simp only [LN] at hc
  · exact hi.2.skip (by omega) (Yq hs)
  · simp only [LN] at CW
    omega
  · exact hi.2.JK (by omega) (Xh hs) (NX (p:=fun s=>gD s (x.aw.getD i.2 default)) (fun s=>by show gD s _=true↔_; rw [rJ,beq_iff_eq]) h4) h5
  · exact ⟨⟨by omega,hb⟩,by omega⟩
  · have e:i.2=x.aw.length:=by omega
    rw [← e]
    exact hi.2
  · subst hx Bu
    exact hb

theorem SE (r:ah) (forum:Int) (f:ai) (day:Int):(fun (x:(List Claim) × Unit)=>yU (aj f day) (cr r forum f day) (aj f day).aw.length x.1) (BI r forum f day):=have h:=Sk.cI _ (Vi r forum f day); h
theorem Xi (r:ah) (forum:Int) (f:ai) (day:Int) (hF:bu r f) (aV:f.Small) (bg:r.bD) (aO:r.Small) (dA:r.fD) (dm:r.cp):(pa r forum f day).a6 (fun _=>True):=by
  refine Sk.aG _ ?_
  unfold pa
  simp only [Sk.gL,Sk.aA,reduceCtorEq,ON,kk,kp,Sk.cC,wR,tA,bj,fY,maxLen]
  refine ⟨aV,fun x hx hl=>⟨⟨hF,aV,bg,aO,dA,dm⟩,fun x1 Bu _=>⟨⟨Nat.zero_le _,.zero⟩,fun i hi hmx=>⟨fun hc=>⟨⟨?_,fun _=>⟨fun hs=>?_,fun hs x4 _ h4=>⟨⟨?_,?_⟩,fun x5 _ h5 _=>⟨⟨Nat.zero_le _,fun j hj hm2 CW=>?_⟩,fun b=>⟨fun _ _ h=>h,fun b1 _=>?_⟩⟩⟩⟩⟩,fun b _ hb _=>?_⟩,fun hc=>?_⟩⟩⟩⟩
  all_goals try simp only [LN] at hc
  · exact ⟨by omega,by omega⟩
  · exact hi.2.skip (by omega) (Yq hs)
  · exact (Xh hs).2
  · have h1:=hi.2.count.1
    have h2:x1.length≤67240:=by rw [Bu]; exact NV hF
    have h3:=hF.2.1.2.2.2.1
    have h4:=Nat.mul_le_mul (show i.2≤100 by omega) h2
    omega
  · simp only [LN] at CW
    exact ⟨⟨by omega,by omega⟩,fun _ _ _=>⟨(ar (by omega) (by omega)).trans (by omega),by omega,by omega⟩⟩
  · exact hi.2.JK (by omega) (Xh hs) (NX (p:=fun s=>gD s (x.aw.getD i.2 default)) (fun s=>by show gD s _=true↔_; rw [rJ,beq_iff_eq]) h4) h5
  · exact ⟨(ar (by omega) (by omega)).trans (by omega),⟨by omega,hb⟩,by omega⟩
  · have e:i.2=x.aw.length:=by omega
    rw [← e]
    exact hi.2

theorem Vj (r:ah) (forum:Int) (f:ai) (day:Int) (hF:bu r f) (aV:f.Small) (bg:r.bD) (aO:r.Small) (dA:r.fD) (dm:r.cp):eC Tryz.prog 67 [av r.cells,iv forum,av f.cells,iv day] [] (.fj [ow 777777 (BI r forum f day).1,.any]) [(777777,aU 53 9 Claim.cells (BI r forum f day).1)] :=
  eC.sk tok mixed (fun x=>.fj [ow 777777 x.1,.any]) (fun x=>[(777777,aU 53 9 Claim.cells x.1)]) Tryz.func67 rfl (by kernel_rfl) 3000 (pa r forum f day) (by kernel_rfl) (Xi r forum f day hF aV bg aO dA dm)
def DB (κ:Nat) (r:ah) (forum:Int) (f:ai) (day:Int):iJ ((List Claim) × Unit):=⟨Tryz.prog,67,[av r.cells,iv forum,av f.cells,iv day],fun x=>.fj [ow κ x.1,.any],fun x=>[(κ,aU 53 9 Claim.cells x.1)],BI r forum f day,(bu r f)∧(f.Small)∧(r.bD)∧(r.Small)∧(r.fD)∧(r.cp),fun h=>eC.aa2 κ rfl (Vj r forum f day h.1 h.2.1 h.2.2.1 h.2.2.2.1 h.2.2.2.2.1 h.2.2.2.2.2),fun (x:(List Claim) × Unit)=>yU (aj f day) (cr r forum f day) (aj f day).aw.length x.1,SE r forum f day⟩
def lF (r:ah) (forum:Int) (f:ai) (day:Int):Sk ((List Claim)) :=
 .r 1 ((DB 16 r forum f day).c) fun x1 =>
 .fin x1.1
def iu r forum f day:=(lF r forum f day).val
theorem NY (r:ah) (forum:Int) (f:ai) (day:Int):(lF r forum f day).cC (fun (x:(List Claim))=>yU (aj f day) (cr r forum f day) (aj f day).aw.length x):=by
  unfold lF
  try simp only [DB]
  exact ET

theorem KB (r:ah) (forum:Int) (f:ai) (day:Int):(fun (x:(List Claim))=>yU (aj f day) (cr r forum f day) (aj f day).aw.length x) (iu r forum f day):=have h:=Sk.cI _ (NY r forum f day); h
theorem P3 (r:ah) (forum:Int) (f:ai) (day:Int) (hF:bu r f) (aV:f.Small) (bg:r.bD) (aO:r.Small) (dA:r.fD) (dm:r.cp):(lF r forum f day).a6 (fun _=>True):=by
  unfold lF
  try simp only [DB]
  exact nF

theorem NZ (r:ah) (forum:Int) (f:ai) (day:Int) (hF:bu r f) (aV:f.Small) (bg:r.bD) (aO:r.Small) (dA:r.fD) (dm:r.cp):eC Tryz.prog 30 [av r.cells,iv forum,av f.cells,iv day] [] (ow 777777 (iu r forum f day)) [(777777,aU 53 9 Claim.cells (iu r forum f day))] :=
  eC.sk tok mixed (fun x=>ow 777777 x) (fun x=>[(777777,aU 53 9 Claim.cells x)]) Tryz.func30 rfl (by kernel_rfl) 3000 (lF r forum f day) (by kernel_rfl) (P3 r forum f day hF aV bg aO dA dm)
def wS (κ:Nat) (r:ah) (forum:Int) (f:ai) (day:Int):iJ ((List Claim)):=⟨Tryz.prog,30,[av r.cells,iv forum,av f.cells,iv day],fun x=>ow κ x,fun x=>[(κ,aU 53 9 Claim.cells x)],iu r forum f day,(bu r f)∧(f.Small)∧(r.bD)∧(r.Small)∧(r.fD)∧(r.cp),fun h=>eC.Ur κ (NZ r forum f day h.1 h.2.1 h.2.2.1 h.2.2.2.1 h.2.2.2.2.1 h.2.2.2.2.2),fun (x:(List Claim))=>yU (aj f day) (cr r forum f day) (aj f day).aw.length x,KB r forum f day⟩
def gS (r:ah) (forum:Int) (f:ai) (day:Int):Sk (Int) :=
 .r 1 (.dep ((nb r forum f 0 day).c) fun x1=>(cL x1).c) fun p3 =>
 .fin p3.2
def Ck r forum f day:=(gS r forum f day).val
theorem yV (r:ah) (forum:Int) (f:ai) (day:Int) (aV:f.Small) (bg:r.bD) (aO:r.Small):(gS r forum f day).a6 (fun _=>True):=by
  simp only [ai.Small,ah.Small,ah.bD] at aV
  simp only [ai.Small,ah.Small,ah.bD] at bg
  simp only [ai.Small,ah.Small,ah.bD] at aO
  unfold gS
  try simp only [nb,cL,ai.Small,ah.Small,ah.bD]
  exact nF

def qJ r forum f day:=kk tok mixed Tryz.func109 [av r.cells,iv forum,av f.cells,iv day] (fun x=>iv x) true (gS r forum f day) (Ck r forum f day) (u3 (yV r forum f day))
def qn (r:ah) (forum:Int) (f:ai) (c_:Claim) (day:Int):Sk (Int × Int) :=
 .br (c_.eD == 0)
 (.r 2 ((cj r forum f day).c) fun x1 =>
 .fin (13,x1))
 (.bt
 (.loop (default:Sum (Int × Int) (Unit)) (fun i3=>i3≤f.aw.length) (fun i3=>f.aw.length - i3) (0:Nat)
 (fun (i3:Nat)=>⟨[(25,iv ((i3:Nat):Int))],[]⟩) fun i3 =>
 .lt 23 0 i3 f.aw.length
 (.r 5 (.p (bN ((i3:Nat):Int) f.aw.length)) fun _ =>
 .br (((((f.aw.getD i3 default).kind) == 6)&&(((f.aw.getD i3 default).dS) == c_.az))&&(((f.aw.getD i3 default).at_) == c_.cz))
 (.fin (.inl (.inl (15,(f.aw.getD i3 default).day))))
 (.nx 8 25 i3 (i3+1)))
 (.fin (.inl (.inr ()))))
 (fun (_:Unit)=>⟨[],[]⟩) fun _ =>
 .r 9 ((qJ r forum f day).c) fun x4 =>
 .fin (14,x4))
def Vk r forum f c_ day:=(qn r forum f c_ day).val
theorem N0 (r:ah) (forum:Int) (f:ai) (c_:Claim) (day:Int) (aV:f.Small) (bg:r.bD) (aO:r.Small):(qn r forum f c_ day).a6 (fun _=>True):=by
  simp only [ai.Small,ah.Small,ah.bD] at aV
  simp only [ai.Small,ah.Small,ah.bD] at bg
  simp only [ai.Small,ah.Small,ah.bD] at aO
  unfold qn
  try simp only [cj,qJ,ai.Small,ah.Small,ah.bD]
  exact nF

def CO r forum f c_ day:=kk tok mixed Tryz.func87 [av r.cells,iv forum,av f.cells,av c_.cells,iv day] (fun x=>.fj [iv x.1,iv x.2]) true (qn r forum f c_ day) (Vk r forum f c_ day) (u3 (N0 r forum f c_ day))
def jW (a:ba) (c_:Claim):Sk (Bool) :=
 .br (a.at_ != c_.sign)
 (.fin false)
 (.fin ((a.kind == 9)||((a.kind == 8)&&((c_.az == (-1))||(a.dS == c_.az)))))
def HR a c_:=(jW a c_).val
theorem Cl (a:ba) (c_:Claim):(jW a c_).a6 (fun _=>True):=by
  unfold jW
  exact od

def uS a c_:=kk tok mixed Tryz.func90 [av a.cells,av c_.cells] (fun x=>bv x) true (jW a c_) (HR a c_) (u0 (Cl a c_))
def tB (r:ah) (forum:Int) (f:ai) (c_:Claim) (day:Int):Sk (Int × Int) :=
 .r 1 ((bj f day).c) fun x1 =>
 .br ((decide (c_.sign < 0))||(decide (c_.sign≥((x1.ae.length:Nat):Int))))
 (.fin (0,1))
 (.r 4 ((CO r forum x1 c_ day).c) fun x2 =>
 .r 5 ((cj r forum x1 day).c) fun x3 =>
 .r 6 ((gr r forum x2.1 ({ file:=x1,sign:=c_.sign,iP:=c_.sign,jh:=(-1),due:=x3,day:=day }:fR)).c) fun x4 =>
 .br ((x4.err != 0)||(x2.2 == (-1)))
 (.fin (0,4))
 (.br (!x4.cell.known)
 (.fin (0,17))
 (.bt
 (.loop (default:Sum (Int × Int) (Int)) (fun i6=>i6.2≤x1.aw.length) (fun i6=>x1.aw.length - i6.2) ((au (x2.2+x4.cell.n),0):Int × Nat)
 (fun (i6:Int × Nat)=>⟨[(16,iv i6.1),(80,iv (i6.2:Int))],[]⟩) fun i6 =>
 .lt 78 0 i6.2 x1.aw.length
 (.r 14 (.p (bN (i6.2:Int) x1.aw.length)) fun _ =>
 .r 15 ((uS (x1.aw.getD i6.2 default) c_).c) fun x7 =>
 .br ((x7&&(decide (((x1.aw.getD i6.2 default).day)≥x2.2)))&&(decide (((x1.aw.getD i6.2 default).day)≤i6.1)))
 (.r 17 .z fun _ =>
 .wi 80 (au ((i6.2:Int)+1)) ((i6.2+1:Nat):Int) <|
 .fin (.inr (au (((x1.aw.getD i6.2 default).day)+x4.cell.n),i6.2+1)))
 (.nx 17 80 i6.2 (i6.1,i6.2+1)))
 (.fin (.inl (.inr i6.1))))
 (fun (b5:Int)=>⟨[(16,iv b5)],[]⟩) fun b5 =>
 .fin (b5,0))))
def ZL r forum f c_ day:=(tB r forum f c_ day).val
theorem SF (r:ah) (forum:Int) (f:ai) (c_:Claim) (day:Int) (aV:f.Small) (bg:r.bD) (aO:r.Small):(tB r forum f c_ day).a6 (fun _=>True):=by
 simp only [ai.Small,ah.Small,ah.bD] at aV
 simp only [ai.Small,ah.Small,ah.bD] at bg
 simp only [ai.Small,ah.Small,ah.bD] at aO
 unfold tB
 try simp only [gr,cj,uS,CO,bj,ai.Small,ah.Small,ah.bD]
 exact nF
def Jr r forum f c_ day:=kk tok mixed Tryz.func68 [av r.cells,iv forum,av f.cells,av c_.cells,iv day] (fun x=>.fj [iv x.1,iv x.2]) true (tB r forum f c_ day) (ZL r forum f c_ day) (u3 (SF r forum f c_ day))
theorem of_eq (r:ah) (c:fR):aa8 r c=({ c with file:=aj c.file c.day },Ja r { c with file:=aj c.file c.day }):=rfl
def oJ (r:ah) (forum:Int) (f:ai) (c_:Claim) (day:Int):Sk (Int) :=
 .r 1 ((Jr r forum f c_ day).c) fun x1 =>
 .br (x1.2 == 17)
 (.fin 2)
 (.br ((x1.2 == 0)&&(decide (day > x1.1)))
 (.fin 1)
 (.fin 0))
def gT r forum f c_ day:=(oJ r forum f c_ day).val
theorem KC (r:ah) (forum:Int) (f:ai) (c_:Claim) (day:Int) (aV:f.Small) (bg:r.bD) (aO:r.Small):(oJ r forum f c_ day).a6 (fun _=>True):=by
 simp only [ai.Small,ah.Small,ah.bD] at aV
 simp only [ai.Small,ah.Small,ah.bD] at bg
 simp only [ai.Small,ah.Small,ah.bD] at aO
 unfold oJ
 try simp only [Jr,ai.Small,ah.Small,ah.bD]
 exact nF
def mK r forum f c_ day:=kk tok mixed Tryz.func32 [av r.cells,iv forum,av f.cells,av c_.cells,iv day] (fun x=>iv x) true (oJ r forum f c_ day) (gT r forum f c_ day) (u3 (KC r forum f c_ day))
def k7 (c_:Claim) (v:ah) (v':Int) (nX:ai) (eE:Int):Sk (Bool) :=
 .r 1 ((mK v v' nX c_ eE).c) fun x1 =>
 .fin (x1 == 1)
def bQ c_ v v' nX eE:=(k7 c_ v v' nX eE).val
theorem DC (c_:Claim) (v:ah) (v':Int) (nX:ai) (eE:Int) (ais:nX.Small) (xS:v.bD) (tU:v.Small):(k7 c_ v v' nX eE).a6 (fun _=>True):=by
 simp only [ai.Small,ah.Small,ah.bD] at ais
 simp only [ai.Small,ah.Small,ah.bD] at xS
 simp only [ai.Small,ah.Small,ah.bD] at tU
 unfold k7
 try simp only [mK,ai.Small,ah.Small,ah.bD]
 exact nF
def gz c_ v v' nX eE:=kk tok mixed Tryz.func31 [av c_.cells,.ref v.cells,.ref [dI v'],.ref nX.cells,.ref [dI eE]] (fun x=>bv x) true (k7 c_ v v' nX eE) (bQ c_ v v' nX eE) (u3 (DC c_ v v' nX eE))
def eS (s:List Claim) (v:ah) (v':Int) (nX:ai) (eE:Int):Sk (Int) :=
 .bind true (fun b1=>∀ q,q < s.length→bQ (s.getD q default) v v' nX eE=false)
 (.loop (default:Sum (Int) (Unit)) (fun i2=>∀ q,q < i2→bQ (s.getD q default) v v' nX eE=false) (fun i2=>s.length - i2) (0:Nat)
 (fun (i2:Nat)=>⟨[(8,iv (i2:Int))],[]⟩) fun i2 =>
 .lt 0 0 i2 s.length
 (.r 4 (.al (.p (bN (i2:Int) s.length)) ((gz (s.getD i2 default) v v' nX eE).c)) fun x3 =>
 .br x3
 (.fin (.inl (.inl (i2:Int))))
 (.nx 6 8 i2 (i2+1)))
 (.fin (.inl (.inr ()))))
 (fun (_:Unit)=>⟨[],[]⟩) fun _ =>
 .fin (-1)
def Cm s v v' nX eE:=(eS s v v' nX eE).val
theorem xT (s:List Claim) (v:ah) (v':Int) (nX:ai) (eE:Int):(eS s v v' nX eE).cC (fun (x:Int)=>(x = -1∧∀ q,q < s.length→bQ (s.getD q default) v v' nX eE=false)∨(0≤x∧x < s.length∧bQ (s.getD x.toNat default) v v' nX eE=true∧∀ q,(q:Nat) < x.toNat→bQ (s.getD q default) v v' nX eE=false)):=by
 unfold eS
 try simp only [gz,ai.Small,ah.Small,ah.bD]
 exact ET
theorem yW (s:List Claim) (v:ah) (v':Int) (nX:ai) (eE:Int) (vX:nX.Small) (xS:v.bD) (tU:v.Small):(eS s v v' nX eE).a6 (fun _=>True):=by
 simp only [ai.Small,ah.Small,ah.bD] at vX
 simp only [ai.Small,ah.Small,ah.bD] at xS
 simp only [ai.Small,ah.Small,ah.bD] at tU
 unfold eS
 try simp only [gz,ai.Small,ah.Small,ah.bD]
 exact nF
def lP s v v' nX eE:=kp tok mixed Tryz.func66 [lv Claim.cells s,.fn 31 [.ref v.cells,.ref [dI v'],.ref nX.cells,.ref [dI eE]]] (fun x=>iv x) true (Cm s v v' nX eE) (u3 (yW s v v' nX eE)) (xT s v v' nX eE)
structure HS {α:Type} [Inhabited α] (del:α→Bool) (s l:List α) (i j:Int):Prop where
 len:l.length=s.length
 i0:0≤i
 ij:i < j
 jn:j≤(s.length:Int)
 kept:l.take i.toNat=(s.take j.toNat).filter fun c=>!del c
 rest:∀ q:Nat,j≤(q:Int)→q < s.length→l.getD q default=s.getD q default
theorem qo {α:Type} [Inhabited α] {l:List α} {n:Nat} (h:n < l.length):l.take (n+1)=l.take n++[l.getD n default]:=by
 rw [List.take_add_one]
 simp [List.getD,h]
theorem filter_all {α:Type} [Inhabited α] {p:α→Bool} {l:List α} {n:Nat} (hn:n≤l.length) (h:∀ q,q < n→p (l.getD q default)=true):(l.take n).filter p=l.take n:=by
 refine List.filter_eq_self.2 (fun x hx=>?_)
 obtain ⟨q,hq,rfl⟩:=List.getElem_of_mem hx
 have Rw:q < n:=by simp at hq; omega
 have:=h q Rw
 rw [show l.getD q default=(l.take n)[q] by simp [List.getD,List.getElem?_eq_getElem (show q < l.length by omega)]] at this
 exact this
theorem HS.init {α:Type} [Inhabited α] {del:α→Bool} {s:List α} {x:Int} (h0:0≤x) (h1:x < (s.length:Int)) (hd:del (s.getD x.toNat default)=true) (hk:∀ q,q < x.toNat→del (s.getD q default)=false):HS del s s x (x+1):=by
 refine ⟨rfl,h0,by omega,by omega,?_,fun _ _ _=>rfl⟩
 rw [show (x+1).toNat=x.toNat+1 by omega,qo (by omega),List.filter_append,filter_all (by omega) (fun q hq=>by rw [hk q hq]; rfl)]
 simp only [List.filter_cons,hd,Bool.not_true,Bool.false_eq_true,if_false,List.filter_nil,List.append_nil]
theorem HS.keep {α:Type} [Inhabited α] {del:α→Bool} {s l:List α} {i j:Int} (h:HS del s l i j) (hj:j < (l.length:Int)) (hd:del (l.getD j.toNat default)=false):HS del s (l.set i.toNat (l.getD j.toNat default)) (i+1) (j+1):=by
 have hl:=h.len
 have h0:=h.i0
 have h1:=h.ij
 have hr:=h.rest j.toNat (by omega) (by omega)
 refine ⟨by simpa using hl,by omega,by omega,by omega,?_,fun q hq hq2=>?_⟩
 ·rw [show (i+1).toNat=i.toNat+1 by omega,show (j+1).toNat=j.toNat+1 by omega,qo (by simp; omega),qo (l:=s) (by omega),List.filter_append,← h.kept,List.take_set_of_le (Nat.le_refl _)]
  congr 1
  rw [hr] at hd ⊢
  simp only [List.filter_cons,hd,Bool.not_false,if_true,List.filter_nil]
  simp [List.getD,show i.toNat < l.length by omega]
 ·rw [← h.rest q (by omega) hq2]
  simp only [List.getD]
  rw [List.getElem?_set_ne (by omega)]
theorem HS.drop {α:Type} [Inhabited α] {del:α→Bool} {s l:List α} {i j:Int} (h:HS del s l i j) (hj:j < (l.length:Int)) (hd:del (l.getD j.toNat default)=true):HS del s l i (j+1):=by
 have hl:=h.len
 have h0:=h.i0
 have h1:=h.ij
 have hr:=h.rest j.toNat (by omega) (by omega)
 refine ⟨hl,by omega,by omega,by omega,?_,fun q hq hq2=>h.rest q (by omega) hq2⟩
 rw [show (j+1).toNat=j.toNat+1 by omega,qo (l:=s) (by omega),List.filter_append,← h.kept]
 rw [hr] at hd
 simp only [List.filter_cons,hd,Bool.not_true,Bool.false_eq_true,if_false,List.filter_nil,List.append_nil]
def abF {α:Type} (del:α→Bool) (s l:List α) (i:Int):Prop:=l.length=s.length∧0≤i∧i≤(s.length:Int)∧l.take i.toNat=s.filter fun c=>!del c
theorem HS.done {α:Type} [Inhabited α] {del:α→Bool} {s l:List α} {i j:Int} (h:HS del s l i j) (hj:¬ j < (l.length:Int)):abF del s l i:=by
 have hl:=h.len
 have h1:=h.ij
 have h2:=h.jn
 refine ⟨hl,h.i0,by omega,?_⟩
 rw [h.kept,List.take_of_length_le (by omega)]
theorem ZM {α:Type} [Inhabited α] {l:List α} {n:Nat} (h:n≤l.length):fa l 0 n=l.take n:=by
 refine List.ext_getElem (by simp [fa,h]) (fun q h1 h2=>?_)
 have hq:q < l.length:=by simp at h2; omega
 simp [fa,List.getD,hq]
theorem abF.res {α:Type} [Inhabited α] {del:α→Bool} {s l:List α} {i:Int} {z:α} (h:abF del s l i):fa (G2 l i.toNat z) 0 i.toNat=s.filter fun c=>!del c:=by
 have h2:=h.1
 have h3:=h.2.2.1
 rw [← h.2.2.2,ZM (by rw [Am]; omega)]
 simp only [G2]
 rw [List.take_append_of_le_length (by simp; omega),List.take_take,Nat.min_self]
theorem filter_none {α:Type} [Inhabited α] {del:α→Bool} {s:List α} (h:∀ q,q < s.length→del (s.getD q default)=false):s=s.filter fun c=>!del c:=by
 have:=filter_all (p:=fun c=>!del c) (l:=s) (n:=s.length) (Nat.le_refl _) (fun q hq=>by rw [h q hq]; rfl)
 rw [List.take_length] at this
 exact this.symm
def de (s:List Claim) (v:ah) (v':Int) (nX:ai) (eE:Int):Sk ((List Claim)) :=
 .r 1 ((lP s v v' nX eE).c) fun x1 =>
 .br (x1 == (-1))
 (.fin s)
 (.bind true (fun b2=>abF (fun c_=>bQ c_ v v' nX eE) s b2.1 b2.2)
 (.loop (default:Sum ((List Claim)) ((List Claim) × Int)) (fun i3=>HS (fun c_=>bQ c_ v v' nX eE) s i3.1 i3.2.1 i3.2.2) (fun i3=>((s.length:Int) - i3.2.2).toNat) ((s,x1,au (x1+1)):(List Claim) × Int × Int)
 (fun (i3:(List Claim) × Int × Int)=>⟨[(0,ow 100002 i3.1),(5,iv i3.2.1),(6,iv i3.2.2)],[(100002,aU 53 9 Claim.cells i3.1)]⟩) fun i3 =>
 .br (decide (i3.2.2 < ((i3.1.length:Nat):Int)))
 (.r 7 (.al (.p (bN i3.2.2 i3.1.length)) (.p (i3.2.2.toNat < i3.1.length))) fun _ =>
 .r 8 ((gz (i3.1.getD i3.2.2.toNat default) v v' nX eE).c) fun x4 =>
 .br (!x4)
 (.r 9 (.al (.p (bN i3.2.1 i3.1.length)) (.al (.o [.dn (uj Claim.E i3.1 i3.2.1.toNat (i3.1.getD i3.2.2.toNat default))]) (.p (i3.2.1.toNat < i3.1.length)))) fun _ =>
 .wn 100002 i3.1.length (i3.1.set i3.2.1.toNat (i3.1.getD i3.2.2.toNat default)).length <|
 .fin (.inr (i3.1.set i3.2.1.toNat (i3.1.getD i3.2.2.toNat default),au (i3.2.1+1),au (i3.2.2+1))))
 (.fin (.inr (i3.1,i3.2.1,au (i3.2.2+1)))))
 (.fin (.inl (.inr (i3.1,i3.2.1)))))
 (fun (b2:(List Claim) × Int)=>⟨[(0,ow 100001 b2.1),(5,iv b2.2)],[(100001,aU 53 9 Claim.cells b2.1)]⟩) fun b2 =>
 .Qz 11 b2.2 (ahO Claim.E b2.1 b2.2.toNat ({ aW:=0,az:=0,part:=0,sign:=0,cz:=0,eD:=0,sum:=0,aE:=0,state:=0 }:Claim) [dI 0,dI 0,dI 0,dI 0,dI 0,dI 0,dI 0,dI 0,dI 0] (by kernel_rfl)) <|
 .r 12 (.al (.o [.dn (af4 Claim.E (G2 b2.1 b2.2.toNat ({ aW:=0,az:=0,part:=0,sign:=0,cz:=0,eD:=0,sum:=0,aE:=0,state:=0 }:Claim)) b2.2.toNat)]) (.p (0≤b2.2∧b2.2≤(((G2 b2.1 b2.2.toNat ({ aW:=0,az:=0,part:=0,sign:=0,cz:=0,eD:=0,sum:=0,aE:=0,state:=0 }:Claim)).length:Nat):Int)))) fun _ =>
 .fin (fa (G2 b2.1 b2.2.toNat ({ aW:=0,az:=0,part:=0,sign:=0,cz:=0,eD:=0,sum:=0,aE:=0,state:=0 }:Claim)) 0 b2.2.toNat))
def jB s v v' nX eE:=(de s v v' nX eE).val
theorem wT (s:List Claim) (v:ah) (v':Int) (nX:ai) (eE:Int) (hP:s.length≤1000000000):(de s v v' nX eE).cC (fun (x:(List Claim))=>x=s.filter fun c_=>!bQ c_ v v' nX eE):=by
 refine Sk.aP _ ?_
 unfold de
 simp only [Sk.ct,Sk.aA,reduceCtorEq,ON,kk,kp,gz,lP,maxLen]
 intro x _ hx
 refine ⟨fun hc=>filter_none (del:=(fun c_=>bQ c_ v v' nX eE)) (hx.elim (fun h=>h.2) (fun h=>absurd (beq_iff_eq.1 hc) (by omega))),fun hc=>⟨⟨?_,fun i hi=>⟨fun hj _ y hy=>⟨fun hn _=>?_,fun hn=>?_⟩,fun hj=>?_⟩⟩,fun b hb _=>abF.res (del:=(fun c_=>bQ c_ v v' nX eE)) hb⟩⟩
 all_goals simp only [LN] at hc
 ·have hx:=hx.resolve_left (fun e=>hc e.1)
  rw [ar (by omega) (by omega)]
  exact HS.init (del:=(fun c_=>bQ c_ v v' nX eE)) hx.1 hx.2.1 hx.2.2.1 hx.2.2.2
 all_goals have GC:=hi.len
 all_goals have hj3:=hi.i0
 all_goals have hj4:=hi.ij
 all_goals have hj5:=hi.jn
 all_goals simp only [LN] at hj
 ·rw [ar (n:=i.2.1+1) (by omega) (by omega),ar (n:=i.2.2+1) (by omega) (by omega)]
  exact ⟨hi.keep (by omega) (by subst hy; simpa using hn),by omega⟩
 ·rw [ar (by omega) (by omega)]
  exact ⟨hi.drop (by omega) (by subst hy; simpa using hn),by omega⟩
 ·exact hi.done (by omega)
theorem vp (s:List Claim) (v:ah) (v':Int) (nX:ai) (eE:Int):(fun (x:(List Claim))=>(s.length≤1000000000)→(x=s.filter fun c_=>!bQ c_ v v' nX eE)) (jB s v v' nX eE):=fun hP=>Sk.cI _ (wT s v v' nX eE hP)
theorem xU (s:List Claim) (v:ah) (v':Int) (nX:ai) (eE:Int) (hs:s.length≤1000000000) (vX:nX.Small) (xS:v.bD) (tU:v.Small):(de s v v' nX eE).a6 (fun _=>True):=by
 refine Sk.aG _ ?_
 unfold de
 simp only [Sk.gL,Sk.aA,reduceCtorEq,ON,kk,kp,gz,lP,maxLen]
 refine ⟨by (repeat' first | assumption | trivial | apply And.intro),fun x _ hx hc=>⟨⟨?_,fun i hi=>⟨fun hj=>⟨?_,fun _=>⟨by (repeat' first | assumption | trivial | apply And.intro),fun y hy=>⟨fun hn=>⟨?_,fun _=>⟨?_,?_⟩⟩,fun hn=>?_⟩⟩⟩,fun hj=>?_⟩⟩,fun b hb=>?_⟩⟩
 all_goals simp only [LN] at hc
 ·have hx:=hx.resolve_left (fun e=>hc e.1)
  rw [ar (by omega) (by omega)]
  exact HS.init (del:=(fun c_=>bQ c_ v v' nX eE)) hx.1 hx.2.1 hx.2.2.1 hx.2.2.2
 rotate_right 1
 ·have h1:=hb.1
  have h2:=hb.2.1
  have h3:=hb.2.2.1
  refine ⟨⟨h2,?_⟩,h2,by rw [Am]; omega⟩
  show b.2≤((b.1.length:Nat):Int)
  omega
 all_goals have GC:=hi.len
 all_goals have hj3:=hi.i0
 all_goals have hj4:=hi.ij
 all_goals have hj5:=hi.jn
 all_goals simp only [LN] at hj
 ·omega
 ·omega
 ·rw [List.length_set]
 ·rw [ar (n:=i.2.1+1) (by omega) (by omega),ar (n:=i.2.2+1) (by omega) (by omega)]
  exact ⟨hi.keep (by omega) (by subst hy; simpa using hn),by omega⟩
 ·rw [ar (by omega) (by omega)]
  exact ⟨hi.drop (by omega) (by subst hy; simpa using hn),by omega⟩
 ·exact hi.done (by omega)
theorem wU (s:List Claim) (v:ah) (v':Int) (nX:ai) (eE:Int) (hs:s.length≤1000000000) (vX:nX.Small) (xS:v.bD) (tU:v.Small):eC Tryz.prog 29 [ow 777776 s,.fn 31 [.ref v.cells,.ref [dI v'],.ref nX.cells,.ref [dI eE]]] [(777776,aU 53 9 Claim.cells s)] (ow 777777 (jB s v v' nX eE)) [(777777,aU 53 9 Claim.cells (jB s v v' nX eE))] :=
 eC.sk tok mixed (fun x=>ow 777777 x) (fun x=>[(777777,aU 53 9 Claim.cells x)]) Tryz.func29 rfl (by kernel_rfl) 3000 (de s v v' nX eE) (by kernel_rfl) (xU s v v' nX eE hs vX xS tU)
def eo (κ κ':Nat) (s:List Claim) (v:ah) (v':Int) (nX:ai) (eE:Int):uk ((List Claim)):=⟨Tryz.prog,29,[ow κ s,.fn 31 [.ref v.cells,.ref [dI v'],.ref nX.cells,.ref [dI eE]]],[(κ,aU 53 9 Claim.cells s)],fun x=>ow κ' x,fun x=>[(κ',aU 53 9 Claim.cells x)],jB s v v' nX eE,(s.length≤1000000000)∧(nX.Small)∧(v.bD)∧(v.Small),fun h=>eC.WC κ rfl (eC.WB κ' (wU s v v' nX eE h.1 h.2.1 h.2.2.1 h.2.2.2)),fun (x:(List Claim))=>(s.length≤1000000000)→(x=s.filter fun c_=>!bQ c_ v v' nX eE),vp s v v' nX eE⟩
theorem Vl {α:Type} (g:α→α) (l:List α) (n:Nat):((l.take n).map g++l.drop n).length=l.length:=by
 simp only [List.length_append,List.length_map,List.length_take,List.length_drop]
 omega
theorem uT {α:Type} [Inhabited α] (g:α→α) {l:List α} {n:Nat} (h:n < l.length):((l.take n).map g++l.drop n).getD n default=l.getD n default:=by
 simp only [List.getD]
 rw [List.getElem?_append_right (by simp; omega)]
 have:n - ((l.take n).map g).length=0:=by simp; omega
 rw [this,List.getElem?_drop,Nat.add_zero]
theorem FH {α:Type} [Inhabited α] (g:α→α) {l:List α} {n:Nat} (h:n < l.length):((l.take n).map g++l.drop n).set n (g (l.getD n default))=(l.take (n+1)).map g++l.drop (n+1):=by
 have h1:((l.take n).map g).length=n:=by simp; omega
 have h2:l[n]?.toList=[l.getD n default]:=by simp [List.getD,h]
 rw [List.set_append_right _ _ (by omega),h1,Nat.sub_self,List.take_add_one,h2,List.drop_eq_getElem_cons h,List.set_cons_zero,List.map_append,List.append_assoc,List.map_cons,List.map_nil,List.singleton_append]
theorem HT {α:Type} [Inhabited α] (g:α→α) {l:List α} {n:Nat} (h:n < l.length) (hg:g (l.getD n default)=l.getD n default):(l.take n).map g++l.drop n=(l.take (n+1)).map g++l.drop (n+1):=by
 rw [← FH g h,hg,← uT g h]
 have h2:n < ((l.take n).map g++l.drop n).length:=by rw [Vl]; exact h
 generalize (l.take n).map g++l.drop n=m at h2
 refine List.ext_getElem (by simp) (fun i h3 h4=>?_)
 rw [List.getElem_set]
 split
 ·rename_i e
  subst e
  simp [List.getD,h2]
 ·rfl
theorem Vm {α:Type} (g:α→α) {l:List α} {n:Nat} (h:l.length≤n):(l.take n).map g++l.drop n=l.map g:=by
 rw [List.take_of_length_le h,List.drop_of_length_le h,List.append_nil]
theorem FI {r:ah} {forum:Int} {f:ai} {day:Int} {l:List Claim} (hF:bu r f) (h:yU (aj f day) (cr r forum f day) (aj f day).aw.length l):l.length≤1000000000:=by
 have h1:=h.count.1
 have h2:=NV (forum:=forum) (day:=day) hF
 have h3:=hF.2.1.2.2.2.1
 have h5:=(mq f day).2.1
 have h4:=Nat.mul_le_mul (show (aj f day).aw.length≤100 by omega) h2
 omega
def DD (r:ah) (forum:Int) (f:ai) (day:Int) (c:Claim):Claim:=bif gT r forum f c day == 2 then { c with state:=2 } else c
def xV (r:ah) (forum:Int) (f:ai) (day:Int) (c:Claim):Bool:=!(gT r forum f c day == 1)
theorem SG (r:ah) (forum:Int) (f:ai) (day:Int):(fun c_=>!bQ c_ r forum f day)=xV r forum f day:=by
 funext c
 show (!bQ c r forum f day) = !(gT r forum f c day == 1)
 congr 1
def jc (r:ah) (forum:Int) (f:ai) (day:Int):Sk ((List Claim)) :=
 .r 0 (.al (.o [.pur 4]) (.al (.o [.pur 5]) (.al (.o [.pur 6]) (.o [.pur 7])))) fun _ =>
 .r 1 (.dep ((wS 16 r forum f day).c) fun x1=>(eo 16 18 x1 r forum f day).c) fun p6 =>
 .bind true (fun b3=>b3=p6.2.map (DD r forum f day))
 (.loop (default:Sum ((List Claim)) ((List Claim))) (fun i4=>i4.2≤p6.2.length∧i4.1=(p6.2.take i4.2).map (DD r forum f day)++p6.2.drop i4.2) (fun i4=>p6.2.length - i4.2) ((p6.2,0):(List Claim) × Nat)
 (fun (i4:(List Claim) × Nat)=>⟨[(9,ow 100002 i4.1),(19,ow 100002 i4.1),(21,iv (i4.2:Int))],[(100002,aU 53 9 Claim.cells i4.1)]⟩) fun i4 =>
 .br (decide ((i4.2:Int) < ((p6.2.length:Nat):Int)))
 (.r 4 (.al (.p (bN (i4.2:Int) i4.1.length)) (.p (i4.2 < i4.1.length))) fun _ =>
 .r 5 ((mK r forum f (i4.1.getD i4.2 default) day).c) fun x5 =>
 .br (x5 == 2)
 (.r 6 (.al (.p (bN (i4.2:Int) i4.1.length)) (.al (.o [.dn (uj Claim.E i4.1 i4.2 ({ i4.1.getD i4.2 default with state:=2 }))]) (.p (i4.2 < i4.1.length)))) fun _ =>
 .wn 100002 i4.1.length (i4.1.set i4.2 ({ i4.1.getD i4.2 default with state:=2 })).length <|
 .nx 7 21 i4.2 (i4.1.set i4.2 ({ i4.1.getD i4.2 default with state:=2 }),i4.2+1))
 (.nx 7 21 i4.2 (i4.1,i4.2+1)))
 (.fin (.inl (.inr i4.1))))
 (fun (b3:(List Claim))=>⟨[(9,ow 100001 b3)],[(100001,aU 53 9 Claim.cells b3)]⟩) fun b3 =>
 .fin b3
def jC r forum f day:=(jc r forum f day).val
theorem HU (r:ah) (forum:Int) (f:ai) (day:Int) (hP:bu r f):(jc r forum f day).cC (fun (x:(List Claim))=>x=((iu r forum f day).filter (xV r forum f day)).map (DD r forum f day)):=by
 refine Sk.aP _ ?_
 unfold jc
 simp only [Sk.ct,Sk.aA,reduceCtorEq,ON,kk,kp,mK,wS,eo,eo,uk.c,maxLen]
 have hg:∀ c,gT r forum f c day=2→DD r forum f day c = { c with state:=2 }:=fun c h=>by unfold DD; rw [h]; rfl
 have hn:∀ c,gT r forum f c day≠2→DD r forum f day c=c:=fun c h=>by unfold DD; rw [beq_eq_false_iff_ne.2 h]; rfl
 intro _ x hx hp
 have hd:x.2=(iu r forum f day).filter (xV r forum f day):=by
  have:=hp.2 (by rw [hx] at hp ⊢; exact FI hP hp.1)
  rw [this,SG,hx]
 refine ⟨⟨⟨Nat.zero_le _,by simp⟩,fun i hi=>⟨fun hc _ y hy=>⟨fun h2 _ _=>?_,fun h2 _=>?_⟩,fun hc=>?_⟩⟩,fun b hb=>by rw [hb,hd]⟩
 all_goals simp only [LN] at hc
 ·simp only [LN] at h2
  rw [hi.2,uT _ (by omega)] at hy
  refine ⟨⟨by omega,?_⟩,by omega⟩
  rw [← FH _ (by omega),hi.2,uT _ (by omega),hg _ (by omega)]
 ·simp only [LN] at h2
  rw [hi.2,uT _ (by omega)] at hy
  refine ⟨⟨by omega,?_⟩,by omega⟩
  rw [← HT _ (by omega) (hn _ (by omega))]
  exact hi.2
 ·rw [hi.2,Vm _ (by omega)]
theorem vY (r:ah) (forum:Int) (f:ai) (day:Int):(fun (x:(List Claim))=>(bu r f)→(x=((iu r forum f day).filter (xV r forum f day)).map (DD r forum f day))) (jC r forum f day):=fun hP=>Sk.cI _ (HU r forum f day hP)
theorem KD (r:ah) (forum:Int) (f:ai) (day:Int) (hF:bu r f) (aV:f.Small) (bg:r.bD) (aO:r.Small) (dA:r.fD) (dm:r.cp):(jc r forum f day).a6 (fun _=>True):=by
 refine Sk.aG _ ?_
 unfold jc
 simp only [Sk.gL,Sk.aA,reduceCtorEq,ON,kk,kp,mK,wS,eo,eo,uk.c,maxLen]
 have hg:∀ c,gT r forum f c day=2→DD r forum f day c = { c with state:=2 }:=fun c h=>by unfold DD; rw [h]; rfl
 have hn:∀ c,gT r forum f c day≠2→DD r forum f day c=c:=fun c h=>by unfold DD; rw [beq_eq_false_iff_ne.2 h]; rfl
 refine fun _=>⟨⟨⟨hF,aV,bg,aO,dA,dm⟩,fun x _ hp=>⟨FI hF hp,by (repeat' first | assumption | trivial | apply And.intro)⟩⟩,fun x hx hp=>⟨⟨Nat.zero_le _,by simp⟩,fun i hi=>⟨fun hc=>?_,fun hc=>?_⟩⟩⟩
 all_goals simp only [LN] at hc
 ·have hl:i.1.length=x.2.length:=by rw [hi.2,Vl]
  have hm:x.2.length≤1000000000:=by
   have h1:=hp.1
   have h2:=hp.2 (by rw [hx] at hp ⊢; exact FI hF hp.1)
   rw [hx] at h1
   have h3:=FI hF h1
   rw [h2,hx]
   exact Nat.le_trans (List.length_filter_le _ _) h3
  have hw:au ((i.2:Int)+1)=((i.2+1:Nat):Int):=(ar (by omega) (by omega)).trans (by omega)
  refine ⟨by omega,fun _=>⟨by (repeat' first | assumption | trivial | apply And.intro),fun y hy=>⟨fun h2=>⟨by omega,fun _=>⟨by rw [List.length_set],fun _=>⟨hw,⟨by omega,?_⟩,by omega⟩⟩⟩,fun h2 _=>⟨hw,⟨by omega,?_⟩,by omega⟩⟩⟩⟩
  all_goals rw [hi.2,uT _ (by omega)] at hy
  all_goals simp only [LN] at h2
  ·rw [← FH _ (by omega),hi.2,uT _ (by omega),hg _ (by omega)]
  ·rw [← HT _ (by omega) (hn _ (by omega))]
   exact hi.2
 ·rw [hi.2,Vm _ (by omega)]
def kq r forum f day:=kk tok mixed Tryz.func13 [av r.cells,iv forum,av f.cells,iv day] (fun x=>lv Claim.cells x) false (jc r forum f day) (jC r forum f day) (u6 (KD r forum f day)) (fun (x:(List Claim))=>(bu r f)→(x=((iu r forum f day).filter (xV r forum f day)).map (DD r forum f day))) (vY r forum f day)
def rK (a:Claim) (b:Claim):Sk (Bool) :=
 .fin (((((a.aW == b.aW)&&(a.az == b.az))&&(a.part == b.part))&&(a.sign == b.sign))&&(a.cz == b.cz))
def iw a b:=(rK a b).val
theorem CP (a:Claim) (b:Claim):iw a b=(((((a.aW == b.aW)&&(a.az == b.az))&&(a.part == b.part))&&(a.sign == b.sign))&&(a.cz == b.cz)):=rfl
theorem P4 (a:Claim) (b:Claim):(rK a b).a6 (fun _=>True):=by
 unfold rK
 exact od
def yX a b:=kk tok mixed Tryz.func33 [av a.cells,av b.cells] (fun x=>bv x) true (rK a b) (iw a b) (u0 (P4 a b))
def Xj (L:List Claim) (c:Claim) (x:Int):Prop :=
 (∃ q,q < L.length∧iw (L.getD q default) c=true∧x=(L.getD q default).state)∨((∀ q,q < L.length→iw (L.getD q default) c=false)∧x=0)
def kr (r:ah) (forum:Int) (f:ai) (day:Int) (c_:Claim):Sk (Int) :=
 .r 1 ((kq r forum f day).c) fun x1 =>
 .bind true (fun b2=>∀ q,q < x1.length→iw (x1.getD q default) c_=false)
 (.loop (default:Sum (Int) (Unit)) (fun i3=>i3≤x1.length∧∀ q,q < i3→iw (x1.getD q default) c_=false) (fun i3=>x1.length - i3) (0:Nat)
 (fun (i3:Nat)=>⟨[(19,iv (i3:Int))],[]⟩) fun i3 =>
 .lt 17 0 i3 x1.length
 (.r 3 (.p (bN (i3:Int) x1.length)) fun _ =>
 .r 4 ((yX (x1.getD i3 default) c_).c) fun x4 =>
 .br x4
 (.fin (.inl (.inl ((x1.getD i3 default).state))))
 (.nx 6 19 i3 (i3+1)))
 (.fin (.inl (.inr ()))))
 (fun (_:Unit)=>⟨[],[]⟩) fun _ =>
 .fin 0
def bH r forum f day c_:=(kr r forum f day c_).val
theorem FJ (r:ah) (forum:Int) (f:ai) (day:Int) (c_:Claim):(kr r forum f day c_).cC (fun (x:Int)=>Xj (jC r forum f day) c_ x):=by
 refine Sk.aP _ ?_
 unfold kr
 simp only [Sk.ct,Sk.aA,reduceCtorEq,ON,kk,kp,kq,yX,CP,forall_eq,maxLen]
 intro _
 generalize jC r forum f day=L
 refine ⟨⟨⟨Nat.zero_le _,fun q hq=>absurd hq (by omega)⟩,fun i hi=>⟨fun hc=>?_,fun hc=>?_⟩⟩,fun b hb=>.inr ⟨hb,rfl⟩⟩
 ·have dK:i < L.length:=by simpa using hc
  refine fun _=>⟨fun h=>.inl ⟨i,dK,h,rfl⟩,fun h _=>⟨⟨by omega,fun q hq=>?_⟩,by omega⟩⟩
  rcases Nat.lt_succ_iff_lt_or_eq.1 hq with h1 | rfl
  ·exact hi.2 q h1
  ·exact h
 ·have e:i=L.length:=by
   have:¬ (i < L.length):=by simpa using hc
   omega
  rw [e] at hi
  exact hi.2
theorem HV (r:ah) (forum:Int) (f:ai) (day:Int) (c_:Claim) (hF:bu r f) (aV:f.Small) (bg:r.bD) (aO:r.Small) (dA:r.fD) (dm:r.cp):(kr r forum f day c_).a6 (fun _=>True):=by
 refine Sk.aG _ ?_
 unfold kr
 simp only [Sk.gL,Sk.aA,reduceCtorEq,ON,kk,kp,kq,yX,CP,forall_eq,maxLen]
 refine ⟨⟨hF,by (repeat' first | assumption | apply And.intro)⟩,fun hx=>?_⟩
 clear hx
 generalize jC r forum f day=L
 refine ⟨⟨Nat.zero_le _,fun q hq=>absurd hq (by omega)⟩,fun i hi hm=>⟨fun hc=>?_,fun hc=>?_⟩⟩
 ·have dK:i < L.length:=by simpa using hc
  refine ⟨by omega,fun _ h _=>⟨(ar (by omega) (by omega)).trans (by omega),⟨by omega,fun q hq=>?_⟩,by omega⟩⟩
  rcases Nat.lt_succ_iff_lt_or_eq.1 hq with h1 | rfl
  ·exact hi.2 q h1
  ·exact h
 ·have e:i=L.length:=by
   have:¬ (i < L.length):=by simpa using hc
   omega
  rw [e] at hi
  exact hi.2
def bB r forum f day c_:=kp tok mixed Tryz.func14 [av r.cells,iv forum,av f.cells,iv day,av c_.cells] (fun x=>iv x) true (bH r forum f day c_) (u6 (HV r forum f day c_)) (FJ r forum f day c_)
theorem aeO {s k:Nat} (hs:s < 256) (hk:k < 8):(aD .u64 (a8 .u64 (s:Int) (k:Int)) 1 == 1)=s.testBit k:=by
 have h:(List.range 256).all (fun s=>(List.range 8).all (fun k=>decide ((aD .u64 (a8 .u64 ((s:Nat):Int) ((k:Nat):Int)) 1 == 1)=s.testBit k)))=true:=by kernel_rfl
 have h1:=List.all_eq_true.1 h s (by simpa using hs)
 have h2:=List.all_eq_true.1 h1 k (by simpa using hk)
 simpa using h2
def ch (x:Fact):Int × Int:=(x.at_,x.kind)
theorem Q2 (k:Nat) (hk:k≤8):0≤cF .u64 1 (k:Int)∧cF .u64 1 (k:Int)≤256:=by
 have:k=0∨k=1∨k=2∨k=3∨k=4∨k=5∨k=6∨k=7∨k=8:=by omega
 rcases this with rfl | rfl | rfl | rfl | rfl | rfl | rfl | rfl | rfl <;> decide
def FGt (y:Fact) (kind at_:Int):Prop:=y.at_ > at_∨(y.at_=at_∧y.kind > kind)
def DE (F:List Fact) (kind at_:Int) (i:Nat):Prop:=(∀ q,q < i→¬ FGt (F.getD q default) kind at_)∧(i < F.length→FGt (F.getD i default) kind at_)
def rL (f g:ai) (l:List Fact) (n:Nat):Prop:=∃ F,g = { f with facts:=F }∧F.length≤f.facts.length+n∧∀ y,y∈F→y∈f.facts∨∃ q,q < n∧ch y=ch (l.getD q default)
theorem rL.init (f:ai) (l:List Fact):rL f f l 0:=⟨f.facts,rfl,Nat.le_refl _,fun y hy=>.inl hy⟩
theorem rL.right {r:ah} {f g:ai} {l:List Fact} {n:Nat} (h:rL f g l n) (hF:bu r f) (hl:f.facts.length+n≤300):bu r g:=by
 obtain ⟨F,rfl,h1,_⟩:=h
 obtain ⟨a,b,c,d,e⟩:=hF
 exact ⟨a,⟨b.1,b.2.1,b.2.2.1,b.2.2.2.1,by show F.length≤300; omega⟩,c,d,e⟩
def qp (f:ai) (l:List Fact):Prop:=(l.map ch).Nodup∧∀ x,x∈l→∀ y,y∈f.facts→ch y≠ch x
theorem qp.sub {f:ai} {l m:List Fact} (h:qp f l) (hs:(m.map ch).Sublist (l.map ch)):qp f m:=by
 refine ⟨hs.nodup h.1,fun x hx y hy e=>?_⟩
 have h1:ch x∈l.map ch:=hs.subset (List.mem_map.2 ⟨x,hx,rfl⟩)
 obtain ⟨z,hz,hk⟩:=List.mem_map.1 h1
 exact h.2 z hz y hy (e.trans hk.symm)
theorem qp.fresh {f g:ai} {l:List Fact} {n:Nat} (h:qp f l) (hg:rL f g l n) (hn:n < l.length):∀ y,y∈g.facts→¬ (y.kind=(l.getD n default).kind∧y.at_=(l.getD n default).at_):=by
 obtain ⟨F,rfl,_,h2⟩:=hg
 intro y hy hk
 have e:ch y=ch (l.getD n default):=by unfold ch; rw [hk.1,hk.2]
 rcases h2 y hy with hf | ⟨q,hq,he⟩
 ·exact h.2 _ (gH hn _) y hf e
 ·have hnd:=h.1
  rw [List.Nodup,List.pairwise_iff_getElem] at hnd
  have:=hnd q n (by simp; omega) (by simpa using hn) hq
  refine this ?_
  simp only [List.getElem_map]
  have e1:l[q]=l.getD q default:=by simp [List.getD,show q < l.length by omega]
  have e2:l[n]=l.getD n default:=by simp [List.getD,hn]
  rw [e1,e2,← he,e]
def rj (s:Nat):Fact:={ kind:=((s % 5:Nat):Int),at_:=((s / 5:Nat):Int),n:=0 }
def FK (g:ai) (s:Nat):List Fact:=bif (bP g ((s % 5:Nat):Int) ((s / 5:Nat):Int)).known then [] else [rj s]
def dF (g:ai) (t:Nat):List Fact:=(List.range t).flatMap (FK g)
theorem hX (g:ai) (t:Nat):dF g (t+1)=dF g t++FK g t:=by simp [dF,List.range_succ]
theorem Yr {i k:Nat} (h:k < 5):rj (5 * i+k) = { kind:=(k:Int),at_:=(i:Int),n:=0 }:=by
 unfold rj; rw [show (5 * i+k) % 5=k by omega,show (5 * i+k) / 5=i by omega]
theorem abG {s t:Nat} (h:rj s=rj t):s=t:=by
 unfold rj at h
 simp only [Fact.mk.injEq] at h
 omega
theorem LL {g:ai} {i k:Nat} (h:k < 5) (hk:(bP g (k:Int) (i:Int)).known=true):FK g (5 * i+k)=[]:=by
 unfold FK; rw [show (5 * i+k) % 5=k by omega,show (5 * i+k) / 5=i by omega,hk]; rfl
theorem FL {g:ai} {i k:Nat} (h:k < 5) (hk:¬ (bP g (k:Int) (i:Int)).known=true):FK g (5 * i+k)=[{ kind:=(k:Int),at_:=(i:Int),n:=0 }]:=by
 unfold FK; rw [show (5 * i+k) % 5=k by omega,show (5 * i+k) / 5=i by omega,Bool.eq_false_iff.2 hk,Yr h]; rfl
theorem abH {g:ai} {s:Nat} {x:Fact} (h:x∈FK g s):x=rj s:=by
 unfold FK at h
 cases hk:(bP g ((s % 5:Nat):Int) ((s / 5:Nat):Int)).known <;> rw [hk] at h <;> simp at h
 exact h
theorem N1 (g:ai) {t N:Nat} (h:t≤N):∃ R,dF g N=dF g t++R∧∀ x∈R,∃ s,t≤s∧s < N∧x=rj s:=by
 induction N with
 | zero=>exact ⟨[],by rw [show t=0 by omega]; simp,fun x hx=>by simp at hx⟩
 | succ N ih =>
  by_cases e:t=N+1
  ·exact ⟨[],by rw [e]; simp,fun x hx=>by simp at hx⟩
  ·obtain ⟨R,h1,h2⟩:=ih (by omega)
   refine ⟨R++FK g N,by rw [hX,h1,List.append_assoc],fun x hx=>?_⟩
   rcases List.mem_append.1 hx with hx | hx
   ·obtain ⟨s,a,b,c⟩:=h2 x hx
    exact ⟨s,a,by omega,c⟩
   ·exact ⟨N,by omega,by omega,abH hx⟩
theorem FM (g:ai) (t:Nat):(dF g t).length≤t:=by
 induction t with
 | zero=>simp [dF]
 | succ t ih =>
  rw [hX,List.length_append]
  have:(FK g t).length≤1:=by unfold FK; cases (bP g ((t % 5:Nat):Int) ((t / 5:Nat):Int)).known <;> simp
  omega
theorem ac2 {g:ai} {i k n:Nat} (hk:k < 5) (hi:i < n) (h:¬ (bP g (k:Int) (i:Int)).known=true) :
  (dF g (5 * i+k)).length < (dF g (5 * n)).length∧(dF g (5 * n)).getD (dF g (5 * i+k)).length default = { kind:=(k:Int),at_:=(i:Int),n:=0 }∧(dF g (5 * i+(k+1))).length=(dF g (5 * i+k)).length+1:=by
 obtain ⟨R,h1,h2⟩:=N1 g (t:=5 * i+k+1) (N:=5 * n) (by omega)
 rw [hX,FL hk h] at h1
 refine ⟨by rw [h1]; simp only [List.length_append,List.length_cons,List.length_nil]; omega,by rw [h1,List.append_assoc]; simp [List.getD],?_⟩
 rw [← Nat.add_assoc,hX,FL hk h]; simp
theorem aeP {g:ai} {i k n:Nat} (hk:k < 5) (hi:i < n) (h:(bP g (k:Int) (i:Int)).known=true) :
  ((dF g (5 * i+k)).length < (dF g (5 * n)).length→¬ (dF g (5 * n)).getD (dF g (5 * i+k)).length default = { kind:=(k:Int),at_:=(i:Int),n:=0 })∧(dF g (5 * i+(k+1))).length=(dF g (5 * i+k)).length:=by
 obtain ⟨R,h1,h2⟩:=N1 g (t:=5 * i+k+1) (N:=5 * n) (by omega)
 rw [hX,LL hk h,List.append_nil] at h1
 refine ⟨fun hl e=>?_,by rw [← Nat.add_assoc,hX,LL hk h,List.append_nil]⟩
 rw [h1,List.length_append] at hl
 have hR:0 < R.length:=by omega
 have hm:R.getD 0 default∈R:=by rw [List.getD_eq_getElem?_getD,List.getElem?_eq_getElem hR]; exact List.getElem_mem hR
 have e':(dF g (5 * n)).getD (dF g (5 * i+k)).length default=R.getD 0 default:=by rw [h1,List.getD_eq_getElem?_getD,List.getD_eq_getElem?_getD,List.getElem?_append_right (Nat.le_refl _),Nat.sub_self]
 obtain ⟨s,a,_,c⟩:=h2 _ hm
 rw [e',c,← Yr hk] at e
 have:=abG e
 omega
theorem N2 (k a:Int):∀ (l:List Fact) (y:Fact),y∈l→y.kind=k→y.at_=a→(walk (gI k a) (fun _=>(⟨false,0⟩:aH)) l ()).known=true
 | [],y,hy,_,_=>by simp at hy
 | x :: r,y,hy,hk,ha=>by
  unfold walk
  cases h:(x.kind == k)&&(x.at_ == a) with
  | true =>
   have e:gI k a x ()=.inl (kQ (x.n != 0)):=by unfold gI; rw [h]; rfl
   rw [e]
   show (kQ (x.n != 0)).known=true
   cases (x.n != 0) <;> kernel_rfl
  | false =>
   have e:gI k a x ()=.inr ():=by unfold gI; rw [h]; rfl
   rw [e]
   rcases List.mem_cons.1 hy with rfl | hy
   ·simp [hk,ha] at h
   ·exact N2 k a r y hy hk ha
theorem Ys (g:ai) (t:Nat):dF g t=((List.range t).filter fun s=>!(bP g ((s % 5:Nat):Int) ((s / 5:Nat):Int)).known).map rj:=by
 induction t with
 | zero=>simp [dF]
 | succ t ih =>
  rw [hX,ih,List.range_succ,List.filter_append,List.map_append]
  congr 1
  unfold FK
  cases h:(bP g ((t % 5:Nat):Int) ((t / 5:Nat):Int)).known
  ·rw [cond_false,List.filter_cons,h]; rfl
  ·rw [cond_true,List.filter_cons,h]; rfl
theorem tV (f:ai) (day:Int):qp f (dF (aj f day) (5 * (aj f day).ae.length)):=by
 rw [Ys]
 refine ⟨?_,fun x hx y hy e=>?_⟩
 ·rw [List.map_map]
  refine List.Pairwise.map _ (fun s t jK h=>?_) (List.Pairwise.filter _ List.nodup_range)
  simp only [Function.comp,ch,rj,Prod.mk.injEq] at h
  omega
 ·obtain ⟨s,hs,rfl⟩:=List.mem_map.1 hx
  rw [List.mem_filter,List.mem_range] at hs
  have h1:=Yd f day ((s % 5:Nat):Int) ((s / 5:Nat):Int) ⟨by omega,by omega⟩
  rw [h1] at hs
  simp only [ch,rj,Prod.mk.injEq] at e
  have h2:(bP f ((s % 5:Nat):Int) ((s / 5:Nat):Int)).known=true:=by
   rw [EX]
   exact N2 _ _ f.facts y hy e.2 e.1
  rw [h2] at hs
  exact absurd hs.2 (by decide)
def iz (f:ai) (day:Int):Sk ((List Fact)) :=
 .r 2 ((bj f day).c) fun x1 =>
 .bind true (fun b2=>b2=dF x1 (5 * x1.ae.length))
 (.loop (default:Sum ((List Fact)) ((List Fact))) (fun i3=>i3.2≤x1.ae.length∧i3.1=dF x1 (5 * i3.2)) (fun i3=>x1.ae.length - i3.2) (([],0):(List Fact) × Nat)
 (fun (i3:(List Fact) × Nat)=>⟨[(5,ow 100030 i3.1),(15,iv (i3.2:Int))],[(100030,aU 37 3 Fact.cells i3.1)]⟩) fun i3 =>
 .lt 6 15 i3.2 x1.ae.length
 (.bind true (fun b4=>b4.1=dF x1 (5 * (i3.2+1)))
 (.bind true (fun b5=>b5.1=dF x1 (5 * (i3.2+1)))
 (.loop (default:Sum (Sum (Sum (Sum ((List Fact)) ((List Fact))) ((List Fact) × Nat)) ((List Fact) × Int × Int × Int × Bool)) ((List Fact) × Int × Bool)) (fun i6=>i6.2≤5∧i6.1=dF x1 (5 * i3.2+i6.2)) (fun i6=>5 - i6.2) ((i3.1,0):(List Fact) × Nat)
 (fun (i6:(List Fact) × Nat)=>⟨[(5,ow 100044 i6.1),(18,iv (i6.2:Int))],[(100044,aU 37 3 Fact.cells i6.1)]⟩) fun i6 =>
 .br (decide ((i6.2:Int) < 5))
 (.r 9 ((cT x1 (i6.2:Int) (i3.2:Int)).c) fun x7 =>
 .br (!x7.known)
 (.r 10 (.al (.o [.dn (dH Fact.E [({ kind:=(i6.2:Int),at_:=(i3.2:Int),n:=0 }:Fact)])]) (.al (.o [.dn (kE Fact.E i6.1 [({ kind:=(i6.2:Int),at_:=(i3.2:Int),n:=0 }:Fact)])]) (.al (.t (Fact.E.mT [({ kind:=(i6.2:Int),at_:=(i3.2:Int),n:=0 }:Fact)])) (.p (vE i6.1.length [({ kind:=(i6.2:Int),at_:=(i3.2:Int),n:=0 }:Fact)].length 24))))) fun _ =>
 .r 11 .z fun _ =>
 .wi 18 (au ((i6.2:Int)+1)) ((i6.2+1:Nat):Int) <|
 .fin (.inr (i6.1++[({ kind:=(i6.2:Int),at_:=(i3.2:Int),n:=0 }:Fact)],i6.2+1)))
 (.nx 11 18 i6.2 (i6.1,i6.2+1)))
 (.fin (.inl (.inr (i6.1,(i6.2:Int),decide ((i6.2:Int) < 5))))))
 (fun (b5:(List Fact) × Int × Bool)=>⟨[(5,ow 100043 b5.1),(18,iv b5.2.1),(19,bv b5.2.2)],[(100043,aU 37 3 Fact.cells b5.1)]⟩) fun b5 =>
 .fin (.inr (b5.1,(i3.2:Int),(i3.2:Int),b5.2.1,b5.2.2)))
 (fun (b4:(List Fact) × Int × Int × Int × Bool)=>⟨[(5,ow 100041 b4.1),(7,iv b4.2.1),(17,iv b4.2.2.1),(18,iv b4.2.2.2.1),(19,bv b4.2.2.2.2)],[(100041,aU 37 3 Fact.cells b4.1)]⟩) fun b4 =>
 .nx 12 15 i3.2 (b4.1,i3.2+1))
 (.fin (.inl (.inr i3.1))))
 (fun (b2:(List Fact))=>⟨[(5,ow 100022 b2)],[(100022,aU 37 3 Fact.cells b2)]⟩) fun b2 =>
 .fin b2
def KE f day:=(iz f day).val
theorem Cn (f:ai) (day:Int):(iz f day).cC (fun (x:(List Fact))=>x=dF (aj f day) (5 * (aj f day).ae.length)):=by
 refine Sk.aP _ ?_
 unfold iz
 simp only [Sk.ct,Sk.aA,reduceCtorEq,ON,kk,kp,bj,cT,ai.Small,ah.Small,maxLen]
 intro x hx _
 refine ⟨⟨⟨Nat.zero_le _,rfl⟩,fun i hi=>⟨fun hc=>⟨⟨⟨⟨by omega,hi.2⟩,fun j hj=>⟨fun hd y hy=>⟨fun hk _ _=>⟨⟨?_,?_⟩,?_⟩,fun hk _=>⟨⟨?_,?_⟩,?_⟩⟩,fun hd=>?_⟩⟩,fun b hb=>hb⟩,fun b _ hb _=>⟨⟨?_,hb⟩,?_⟩⟩,fun hc=>?_⟩⟩,fun b hb=>by rw [hb,hx]⟩
 all_goals try have dK:i.2 < x.ae.length:=by simpa using hc
 all_goals try have UR:j.2 < 5:=by simp only [LN] at hd; omega
 all_goals try omega
 ·rw [hy] at hk
  rw [hj.2,← Nat.add_assoc,hX,FL UR (by simpa using hk)]
 ·rw [hy] at hk
  rw [hj.2,← Nat.add_assoc,hX,LL UR (by simpa using hk),List.append_nil]
 ·have e:j.2=5:=by simp only [LN] at hd; omega
  rw [hj.2,e]; rfl
 ·have e:i.2=x.ae.length:=by
   have:¬ (i.2 < x.ae.length):=by simpa using hc
   omega
  rw [hi.2,e]
theorem DF (f:ai) (day:Int) (hf:f.Small):(iz f day).a6 (fun _=>True):=by
 simp only [ai.Small,ah.Small] at hf
 refine Sk.aG _ ?_
 unfold iz
 simp only [Sk.gL,Sk.aA,reduceCtorEq,ON,kk,kp,bj,cT,ai.Small,ah.Small,maxLen]
 refine ⟨hf,fun x _ hx=>?_⟩
 have hs:x.ae.length≤1000000:=by have:=hf.1; omega
 have hu:=FM x
 refine ⟨⟨Nat.zero_le _,rfl⟩,fun i hi hm=>⟨fun hc=>⟨⟨⟨⟨by omega,hi.2⟩,fun j hj=>⟨fun hd y hy=>⟨fun hk=>⟨?_,fun _ _=>⟨(ar (by omega) (by omega)).trans (by omega),⟨?_,?_⟩,?_⟩⟩,fun hk _=>⟨(ar (by omega) (by omega)).trans (by omega),⟨?_,?_⟩,?_⟩⟩,fun hd=>?_⟩⟩,fun b hb=>hb⟩,fun b _ hb _=>⟨(ar (by omega) (by omega)).trans (by omega),⟨?_,hb⟩,?_⟩⟩,fun hc=>?_⟩⟩
 all_goals try have dK:i.2 < x.ae.length:=by simpa using hc
 all_goals try have UR:j.2 < 5:=by simp only [LN] at hd; omega
 all_goals try omega
 ·have:=hu (5 * i.2+j.2)
  rw [← hj.2] at this
  simp only [List.length_cons,List.length_nil]
  omega
 ·rw [hy] at hk
  rw [hj.2,← Nat.add_assoc,hX,FL UR (by simpa using hk)]
 ·rw [hy] at hk
  rw [hj.2,← Nat.add_assoc,hX,LL UR (by simpa using hk),List.append_nil]
 ·have e:j.2=5:=by simp only [LN] at hd; omega
  rw [hj.2,e]; rfl
 ·have e:i.2=x.ae.length:=by
   have:¬ (i.2 < x.ae.length):=by simpa using hc
   omega
  rw [hi.2,e]
def bO f day:=kp tok mixed Tryz.func10 [av f.cells,iv day] (fun x=>lv Fact.cells x) false (KE f day) (DF f day) (Cn f day)
def jX (x_:Int):Sk (Int) :=
 .r 1 (.p (0≤(1:Int))) fun _ =>
 .r 2 (.p (0≤(2:Int))) fun _ =>
 .r 3 (.p (0≤(4:Int))) fun _ =>
 .r 4 (.p (0≤(8:Int))) fun _ =>
 .r 5 (.p (0≤(16:Int))) fun _ =>
 .r 6 (.p (0≤(32:Int))) fun _ =>
 .fin (aD .i64 (au (IntKind.u64.wrap ((IntKind.u64.wrap ((IntKind.u64.wrap ((aD .u64 (IntKind.u64.wrap ((a8 .u64 (IntKind.u64.wrap ((aD .u64 (a8 .u64 (IntKind.u64.wrap ((aD .u64 (a8 .u64 x_ 1) 6148914691236517205)+(aD .u64 x_ 6148914691236517205))) 2) 3689348814741910323)+(aD .u64 (IntKind.u64.wrap ((aD .u64 (a8 .u64 x_ 1) 6148914691236517205)+(aD .u64 x_ 6148914691236517205))) 3689348814741910323))) 4)+(IntKind.u64.wrap ((aD .u64 (a8 .u64 (IntKind.u64.wrap ((aD .u64 (a8 .u64 x_ 1) 6148914691236517205)+(aD .u64 x_ 6148914691236517205))) 2) 3689348814741910323)+(aD .u64 (IntKind.u64.wrap ((aD .u64 (a8 .u64 x_ 1) 6148914691236517205)+(aD .u64 x_ 6148914691236517205))) 3689348814741910323))))) 1085102592571150095)+(a8 .u64 (aD .u64 (IntKind.u64.wrap ((a8 .u64 (IntKind.u64.wrap ((aD .u64 (a8 .u64 (IntKind.u64.wrap ((aD .u64 (a8 .u64 x_ 1) 6148914691236517205)+(aD .u64 x_ 6148914691236517205))) 2) 3689348814741910323)+(aD .u64 (IntKind.u64.wrap ((aD .u64 (a8 .u64 x_ 1) 6148914691236517205)+(aD .u64 x_ 6148914691236517205))) 3689348814741910323))) 4)+(IntKind.u64.wrap ((aD .u64 (a8 .u64 (IntKind.u64.wrap ((aD .u64 (a8 .u64 x_ 1) 6148914691236517205)+(aD .u64 x_ 6148914691236517205))) 2) 3689348814741910323)+(aD .u64 (IntKind.u64.wrap ((aD .u64 (a8 .u64 x_ 1) 6148914691236517205)+(aD .u64 x_ 6148914691236517205))) 3689348814741910323))))) 1085102592571150095) 8)))+(a8 .u64 (IntKind.u64.wrap ((aD .u64 (IntKind.u64.wrap ((a8 .u64 (IntKind.u64.wrap ((aD .u64 (a8 .u64 (IntKind.u64.wrap ((aD .u64 (a8 .u64 x_ 1) 6148914691236517205)+(aD .u64 x_ 6148914691236517205))) 2) 3689348814741910323)+(aD .u64 (IntKind.u64.wrap ((aD .u64 (a8 .u64 x_ 1) 6148914691236517205)+(aD .u64 x_ 6148914691236517205))) 3689348814741910323))) 4)+(IntKind.u64.wrap ((aD .u64 (a8 .u64 (IntKind.u64.wrap ((aD .u64 (a8 .u64 x_ 1) 6148914691236517205)+(aD .u64 x_ 6148914691236517205))) 2) 3689348814741910323)+(aD .u64 (IntKind.u64.wrap ((aD .u64 (a8 .u64 x_ 1) 6148914691236517205)+(aD .u64 x_ 6148914691236517205))) 3689348814741910323))))) 1085102592571150095)+(a8 .u64 (aD .u64 (IntKind.u64.wrap ((a8 .u64 (IntKind.u64.wrap ((aD .u64 (a8 .u64 (IntKind.u64.wrap ((aD .u64 (a8 .u64 x_ 1) 6148914691236517205)+(aD .u64 x_ 6148914691236517205))) 2) 3689348814741910323)+(aD .u64 (IntKind.u64.wrap ((aD .u64 (a8 .u64 x_ 1) 6148914691236517205)+(aD .u64 x_ 6148914691236517205))) 3689348814741910323))) 4)+(IntKind.u64.wrap ((aD .u64 (a8 .u64 (IntKind.u64.wrap ((aD .u64 (a8 .u64 x_ 1) 6148914691236517205)+(aD .u64 x_ 6148914691236517205))) 2) 3689348814741910323)+(aD .u64 (IntKind.u64.wrap ((aD .u64 (a8 .u64 x_ 1) 6148914691236517205)+(aD .u64 x_ 6148914691236517205))) 3689348814741910323))))) 1085102592571150095) 8))) 16)))+(a8 .u64 (IntKind.u64.wrap ((IntKind.u64.wrap ((aD .u64 (IntKind.u64.wrap ((a8 .u64 (IntKind.u64.wrap ((aD .u64 (a8 .u64 (IntKind.u64.wrap ((aD .u64 (a8 .u64 x_ 1) 6148914691236517205)+(aD .u64 x_ 6148914691236517205))) 2) 3689348814741910323)+(aD .u64 (IntKind.u64.wrap ((aD .u64 (a8 .u64 x_ 1) 6148914691236517205)+(aD .u64 x_ 6148914691236517205))) 3689348814741910323))) 4)+(IntKind.u64.wrap ((aD .u64 (a8 .u64 (IntKind.u64.wrap ((aD .u64 (a8 .u64 x_ 1) 6148914691236517205)+(aD .u64 x_ 6148914691236517205))) 2) 3689348814741910323)+(aD .u64 (IntKind.u64.wrap ((aD .u64 (a8 .u64 x_ 1) 6148914691236517205)+(aD .u64 x_ 6148914691236517205))) 3689348814741910323))))) 1085102592571150095)+(a8 .u64 (aD .u64 (IntKind.u64.wrap ((a8 .u64 (IntKind.u64.wrap ((aD .u64 (a8 .u64 (IntKind.u64.wrap ((aD .u64 (a8 .u64 x_ 1) 6148914691236517205)+(aD .u64 x_ 6148914691236517205))) 2) 3689348814741910323)+(aD .u64 (IntKind.u64.wrap ((aD .u64 (a8 .u64 x_ 1) 6148914691236517205)+(aD .u64 x_ 6148914691236517205))) 3689348814741910323))) 4)+(IntKind.u64.wrap ((aD .u64 (a8 .u64 (IntKind.u64.wrap ((aD .u64 (a8 .u64 x_ 1) 6148914691236517205)+(aD .u64 x_ 6148914691236517205))) 2) 3689348814741910323)+(aD .u64 (IntKind.u64.wrap ((aD .u64 (a8 .u64 x_ 1) 6148914691236517205)+(aD .u64 x_ 6148914691236517205))) 3689348814741910323))))) 1085102592571150095) 8)))+(a8 .u64 (IntKind.u64.wrap ((aD .u64 (IntKind.u64.wrap ((a8 .u64 (IntKind.u64.wrap ((aD .u64 (a8 .u64 (IntKind.u64.wrap ((aD .u64 (a8 .u64 x_ 1) 6148914691236517205)+(aD .u64 x_ 6148914691236517205))) 2) 3689348814741910323)+(aD .u64 (IntKind.u64.wrap ((aD .u64 (a8 .u64 x_ 1) 6148914691236517205)+(aD .u64 x_ 6148914691236517205))) 3689348814741910323))) 4)+(IntKind.u64.wrap ((aD .u64 (a8 .u64 (IntKind.u64.wrap ((aD .u64 (a8 .u64 x_ 1) 6148914691236517205)+(aD .u64 x_ 6148914691236517205))) 2) 3689348814741910323)+(aD .u64 (IntKind.u64.wrap ((aD .u64 (a8 .u64 x_ 1) 6148914691236517205)+(aD .u64 x_ 6148914691236517205))) 3689348814741910323))))) 1085102592571150095)+(a8 .u64 (aD .u64 (IntKind.u64.wrap ((a8 .u64 (IntKind.u64.wrap ((aD .u64 (a8 .u64 (IntKind.u64.wrap ((aD .u64 (a8 .u64 x_ 1) 6148914691236517205)+(aD .u64 x_ 6148914691236517205))) 2) 3689348814741910323)+(aD .u64 (IntKind.u64.wrap ((aD .u64 (a8 .u64 x_ 1) 6148914691236517205)+(aD .u64 x_ 6148914691236517205))) 3689348814741910323))) 4)+(IntKind.u64.wrap ((aD .u64 (a8 .u64 (IntKind.u64.wrap ((aD .u64 (a8 .u64 x_ 1) 6148914691236517205)+(aD .u64 x_ 6148914691236517205))) 2) 3689348814741910323)+(aD .u64 (IntKind.u64.wrap ((aD .u64 (a8 .u64 x_ 1) 6148914691236517205)+(aD .u64 x_ 6148914691236517205))) 3689348814741910323))))) 1085102592571150095) 8))) 16))) 32)))) 127)
def HW x_:=(jX x_).val
theorem Co (x_:Int):(jX x_).a6 (fun _=>True):=by
 unfold jX
 exact nF
def uU x_:=kk tok mixed Tryz.func70 [.d (.v (.int .u64 x_))] (fun x=>iv x) true (jX x_) (HW x_) (u0 (Co x_))
def mc (x_:Int):Sk (Int) :=
 .r 2 ((uU x_).c) fun x1 =>
 .fin x1
def cx x_:=(mc x_).val
theorem FN (x_:Int):(mc x_).a6 (fun _=>True):=by
 unfold mc
 try simp only [uU]
 exact od
def du x_:=kk tok mixed Tryz.func34 [.d (.v (.int .u64 x_))] (fun x=>iv x) true (mc x_) (cx x_) (u0 (FN x_))
def pb (s:Nat):Nat→Nat
 | 0=>0
 | k+1=>pb s k+(if s.testBit k then 1 else 0)
theorem DG (s k:Nat):pb s k≤k:=by
 induction k with
 | zero=>exact Nat.le_refl _
 | succ k ih=>simp only [pb]; split <;> omega
theorem abI (s:Nat) {j k:Nat} (h:j≤k):pb s j≤pb s k:=by
 induction k with
 | zero=>rw [show j=0 by omega]; exact Nat.le_refl _
 | succ k ih =>
  by_cases e:j=k+1
  ·rw [e]; exact Nat.le_refl _
  ·have:=ih (by omega)
   simp only [pb]
   split <;> omega
theorem aeQ:∀ s:Nat,s < 256→cx (s:Int)=((pb s 8:Nat):Int):=by
 have h:(List.range 256).all (fun s=>decide (cx (s:Int)=((pb s 8:Nat):Int)))=true:=by kernel_rfl
 intro s hs
 have:=List.all_eq_true.1 h s (by simpa using hs)
 simpa using this
theorem N3 {set:Int} {len i:Nat} (hs:0≤set∧set < 256) (hl:len≤8) (hi:i < len) :
  au (au ((len:Int) - 1) - (i:Int))=((len - 1 - i:Nat):Int)∧(aD .u64 (a8 .u64 set (au (au ((len:Int) - 1) - (i:Int)))) 1 == 1)=set.toNat.testBit (len - 1 - i) ∧
   pb set.toNat (len - i)=pb set.toNat (len - (i+1))+(if set.toNat.testBit (len - 1 - i) then 1 else 0):=by
 have e1:au ((len:Int) - 1)=(len:Int) - 1:=ar (by omega) (by omega)
 have e2:au (au ((len:Int) - 1) - (i:Int))=((len - 1 - i:Nat):Int):=by
  rw [e1,ar (by omega) (by omega)]; omega
 refine ⟨e2,?_,?_⟩
 ·rw [e2]
  have:=aeO (s:=set.toNat) (k:=len - 1 - i) (by omega) (by omega)
  rwa [show ((set.toNat:Nat):Int)=set by omega] at this
 ·rw [show len - i=(len - (i+1))+1 by omega,show len - 1 - i=len - (i+1) by omega]
  rfl
theorem Yt {s n:Nat} (hs:s < 2 ^ n):∀ k,n≤k→pb s k=pb s n
 | 0,h=>by rw [show n=0 by omega]
 | k+1,h=>by
  by_cases e:n=k+1
  ·rw [e]
  ·have h1:s.testBit k=false:=Nat.testBit_lt_two_pow (Nat.lt_of_lt_of_le hs (Nat.pow_le_pow_right (by omega) (by omega)))
   rw [pb,Yt hs k (by omega),h1]
   rfl
theorem yY {n:Nat} (h:n≤8):2 ^ n≤256:=by
 have:=Nat.pow_le_pow_right (show 0 < 2 by omega) h
 omega
theorem Q3 {s:Int} {n:Nat} (h0:0≤s) (hs:s.toNat < 2 ^ n) (hn:n≤8):cx s=((pb s.toNat n:Nat):Int):=by
 have h1:=yY hn
 have:=aeQ s.toNat (by omega)
 rw [show ((s.toNat:Nat):Int)=s by omega] at this
 rw [this,Yt hs 8 hn]
theorem Yu {v k:Nat} (hv:v < 256) (hk:k < 8):au (aD .u64 (a8 .u64 (v:Int) (k:Int)) 1)=if v.testBit k then 1 else 0:=by
 have h:(List.range 256).all (fun v=>(List.range 8).all (fun k=>decide (au (aD .u64 (a8 .u64 ((v:Nat):Int) ((k:Nat):Int)) 1)=if v.testBit k then 1 else 0)))=true:=by kernel_rfl
 have h1:=List.all_eq_true.1 h v (by simpa using hv)
 have h2:=List.all_eq_true.1 h1 k (by simpa using hk)
 simpa using h2
def tC:List Fact→Nat→Nat→List Fact
 | [],_,_=>[]
 | x :: r,s,v=>if s.testBit r.length then { x with n:=if v.testBit (pb s r.length) then 1 else 0 } :: tC r s v else tC r s v
theorem vZ (s v:Nat):∀ l:List Fact,(tC l s v).length=pb s l.length
 | []=>rfl
 | x :: r=>by
  rw [tC,List.length_cons,pb,← vZ s v r]
  split <;> simp
theorem uV (s v:Nat):∀ l:List Fact,((tC l s v).map ch).Sublist (l.map ch)
 | []=>List.Sublist.refl _
 | x :: r=>by
  rw [tC]
  split
  ·exact (uV s v r).cons_cons _
  ·exact (uV s v r).cons _
theorem Vn {l:List Fact} {i:Nat} (hi:i < l.length) (s v:Nat):tC (l.drop i) s v=if s.testBit (l.length - 1 - i) then { l.getD i default with n:=if v.testBit (pb s (l.length - 1 - i)) then 1 else 0 } :: tC (l.drop (i+1)) s v else tC (l.drop (i+1)) s v:=by
 rw [List.drop_eq_getElem_cons hi,tC,List.length_drop,show l.length - (i+1)=l.length - 1 - i by omega,show l[i]=l.getD i default by simp [List.getD,hi]]
theorem SH {s v:Nat}:∀ {l:List Fact} {k:Int × Int},k∈(tC l s v).map ch→∃ i,i < l.length∧ch (l.getD i default)=k∧s.testBit (l.length - 1 - i)=true
 | [],k,h=>by simp [tC] at h
 | x :: r,k,h=>by
  have go:k∈(tC r s v).map ch→∃ i,i < (x :: r).length∧ch ((x :: r).getD i default)=k∧s.testBit ((x :: r).length - 1 - i)=true:=fun h=>by
   obtain ⟨i,h1,h2,h3⟩:=SH h
   refine ⟨i+1,by simp; omega,by simpa using h2,?_⟩
   rw [List.length_cons,show r.length+1 - 1 - (i+1)=r.length - 1 - i by omega]
   exact h3
  rw [tC] at h
  split at h
  ·rename_i hb
   rw [List.map_cons,List.mem_cons] at h
   rcases h with h | h
   ·exact ⟨0,by simp,by rw [h]; rfl,by simpa using hb⟩
   ·exact go h
  ·exact go h
theorem SI {s v:Nat}:∀ {l:List Fact} {i:Nat},i < l.length→s.testBit (l.length - 1 - i)=true→ch (l.getD i default)∈(tC l s v).map ch
 | [],i,h,_=>by simp at h
 | x :: r,0,_,hb=>by
  rw [List.length_cons,Nat.add_sub_cancel,Nat.sub_zero] at hb
  rw [tC,if_pos hb]
  exact List.mem_cons_self
 | x :: r,i+1,h,hb=>by
  rw [List.length_cons,show r.length+1 - 1 - (i+1)=r.length - 1 - i by omega] at hb
  have:=SI (v:=v) (l:=r) (i:=i) (by simpa using h) hb
  rw [tC]
  split
  ·rw [List.map_cons]
   exact List.mem_cons_of_mem _ this
  ·exact this
def gA (l:List Fact) (set:Int) (values:Int):Sk ((List Fact)) :=
 .r 2 ((du set).c) fun x1 =>
 .bind true (fun b2=>b2=tC l set.toNat values.toNat)
 (.loop (default:Sum ((List Fact)) ((List Fact))) (fun i3=>i3.2.2≤l.length∧i3.1++tC (l.drop i3.2.2) set.toNat values.toNat=tC l set.toNat values.toNat∧i3.1.length≤i3.2.2∧i3.2.1=((pb set.toNat (l.length - i3.2.2):Nat):Int)) (fun i3=>l.length - i3.2.2) (([],x1,0):(List Fact) × Int × Nat)
 (fun (i3:(List Fact) × Int × Nat)=>⟨[(7,ow 100002 i3.1),(8,iv i3.2.1),(15,iv (i3.2.2:Int))],[(100002,aU 37 3 Fact.cells i3.1)]⟩) fun i3 =>
 .lt 0 0 i3.2.2 l.length
 (.r 5 (.p (bN (i3.2.2:Int) l.length)) fun _ =>
 .r 6 (.p (0≤(au ((au (((l.length:Nat):Int) - 1)) - (i3.2.2:Int))))) fun _ =>
 .br ((aD .u64 (a8 .u64 set (au ((au (((l.length:Nat):Int) - 1)) - (i3.2.2:Int)))) 1) == 1)
 (.r 8 (.p (0≤(au (i3.2.1 - 1)))) fun _ =>
 .r 9 (.al (.o [.dn (dH Fact.E [{ l.getD i3.2.2 default with n:=au (aD .u64 (a8 .u64 values (au (i3.2.1 - 1))) 1) }])]) (.al (.o [.dn (kE Fact.E i3.1 [{ l.getD i3.2.2 default with n:=au (aD .u64 (a8 .u64 values (au (i3.2.1 - 1))) 1) }])]) (.al (.t (Fact.E.mT [{ l.getD i3.2.2 default with n:=au (aD .u64 (a8 .u64 values (au (i3.2.1 - 1))) 1) }])) (.p (vE i3.1.length [{ l.getD i3.2.2 default with n:=au (aD .u64 (a8 .u64 values (au (i3.2.1 - 1))) 1) }].length 24))))) fun _ =>
 .r 10 .z fun _ =>
 .wi 15 (au ((i3.2.2:Int)+1)) ((i3.2.2+1:Nat):Int) <|
 .fin (.inr (i3.1++[{ l.getD i3.2.2 default with n:=au (aD .u64 (a8 .u64 values (au (i3.2.1 - 1))) 1) }],au (i3.2.1 - 1),i3.2.2+1)))
 (.nx 10 15 i3.2.2 (i3.1,i3.2.1,i3.2.2+1)))
 (.fin (.inl (.inr i3.1))))
 (fun (b2:(List Fact))=>⟨[(7,ow 100001 b2)],[(100001,aU 37 3 Fact.cells b2)]⟩) fun b2 =>
 .fin b2
def A7 l set values:=(gA l set values).val
theorem DH (l:List Fact) (set:Int) (values:Int) (hP:l.length≤8∧(0≤set∧set.toNat < 2 ^ l.length)∧(0≤values∧values < 256)):(gA l set values).cC (fun (x:(List Fact))=>x=tC l set.toNat values.toNat):=by
 refine Sk.aP _ ?_
 unfold gA
 simp only [Sk.ct,Sk.aA,reduceCtorEq,ON,kk,kp,du,maxLen]
 obtain ⟨hl,hs,hv⟩:=hP
 intro x hx
 have hp:=yY hl
 have hx8:=Q3 hs.1 hs.2 hl
 refine ⟨⟨⟨Nat.zero_le _,rfl,Nat.le_refl _,by rw [hx,hx8]; rfl⟩,fun i hi=>⟨fun hc=>?_,fun hc=>?_⟩⟩,fun b hb=>hb⟩
 ·have dK:i.2.2 < l.length:=by simpa using hc
  obtain ⟨h0,h1,h2,h3⟩:=hi
  obtain ⟨c1,c2,c3⟩:=N3 (set:=set) ⟨hs.1,by omega⟩ hl dK
  have hd:=Vn dK set.toNat values.toNat
  rw [c1] at c2
  rw [c1,c2]
  have hq:=DG set.toNat (l.length - (i.2.2+1))
  refine fun _ _=>⟨fun hb=>?_,fun hb _=>?_⟩
  ·rw [if_pos hb] at c3 hd
   have e:au (i.2.1 - 1)=((pb set.toNat (l.length - (i.2.2+1)):Nat):Int):=by
    rw [h3,c3,ar (by omega) (by omega)]; omega
   rw [e]
   have hv2:=Yu (v:=values.toNat) (k:=pb set.toNat (l.length - (i.2.2+1))) (by omega) (by omega)
   rw [show ((values.toNat:Nat):Int)=values by omega] at hv2
   rw [hv2]
   refine fun _ _ _=>⟨⟨by omega,?_,by simp only [List.length_append,List.length_cons,List.length_nil]; omega,rfl⟩,by omega⟩
   rw [List.append_assoc,List.singleton_append,← h1,hd,show l.length - 1 - i.2.2=l.length - (i.2.2+1) by omega]
  ·rw [hb] at c3 hd
   rw [if_neg Bool.false_ne_true] at c3 hd
   refine ⟨⟨by omega,by rw [← h1,hd],by omega,by rw [h3,c3]; rfl⟩,by omega⟩
 ·have e:i.2.2=l.length:=by
   have:¬ (i.2.2 < l.length):=by simpa using hc
   omega
  have h1:=hi.2.1
  rw [e,List.drop_length] at h1
  rw [← h1,tC,List.append_nil]
theorem Cp (l:List Fact) (set:Int) (values:Int):(fun (x:(List Fact))=>(l.length≤8∧(0≤set∧set.toNat < 2 ^ l.length)∧(0≤values∧values < 256))→(x=tC l set.toNat values.toNat)) (A7 l set values):=fun hP=>Sk.cI _ (DH l set values hP)
theorem FO (l:List Fact) (set:Int) (values:Int) (hl:l.length≤8) (hs:0≤set∧set.toNat < 2 ^ l.length) (hv:0≤values∧values < 256):(gA l set values).a6 (fun _=>True):=by
 refine Sk.aG _ ?_
 unfold gA
 simp only [Sk.gL,Sk.aA,reduceCtorEq,ON,kk,kp,du,maxLen]
 intro x hx
 have hp:=yY hl
 have hx8:=Q3 hs.1 hs.2 hl
 refine ⟨⟨Nat.zero_le _,rfl,Nat.le_refl _,by rw [hx,hx8]; rfl⟩,fun i hi hm=>⟨fun hc=>?_,fun hc=>?_⟩⟩
 ·have dK:i.2.2 < l.length:=by simpa using hc
  obtain ⟨h0,h1,h2,h3⟩:=hi
  obtain ⟨c1,c2,c3⟩:=N3 (set:=set) ⟨hs.1,by omega⟩ hl dK
  have hd:=Vn dK set.toNat values.toNat
  rw [c1] at c2
  rw [c1,c2]
  have wi:au ((i.2.2:Int)+1)=((i.2.2+1:Nat):Int):=(ar (by omega) (by omega)).trans (by omega)
  have hq:=DG set.toNat (l.length - (i.2.2+1))
  refine ⟨by omega,fun _=>⟨by omega,fun _=>⟨fun hb=>?_,fun hb _=>?_⟩⟩⟩
  ·rw [if_pos hb] at c3 hd
   have e:au (i.2.1 - 1)=((pb set.toNat (l.length - (i.2.2+1)):Nat):Int):=by
    rw [h3,c3,ar (by omega) (by omega)]; omega
   rw [e]
   have hv2:=Yu (v:=values.toNat) (k:=pb set.toNat (l.length - (i.2.2+1))) (by omega) (by omega)
   rw [show ((values.toNat:Nat):Int)=values by omega] at hv2
   rw [hv2]
   refine ⟨by omega,fun _=>⟨by simp only [List.length_cons,List.length_nil]; omega,fun _ _=>⟨wi,⟨by omega,?_,by simp only [List.length_append,List.length_cons,List.length_nil]; omega,rfl⟩,by omega⟩⟩⟩
   rw [List.append_assoc,List.singleton_append,← h1,hd,show l.length - 1 - i.2.2=l.length - (i.2.2+1) by omega]
  ·rw [hb] at c3 hd
   rw [if_neg Bool.false_ne_true] at c3 hd
   refine ⟨wi,⟨by omega,by rw [← h1,hd],by omega,by rw [h3,c3]; rfl⟩,by omega⟩
 ·have e:i.2.2=l.length:=by
   have:¬ (i.2.2 < l.length):=by simpa using hc
   omega
  have h1:=hi.2.1
  rw [e,List.drop_length] at h1
  rw [← h1,tC,List.append_nil]
def rk l set values:=kk tok mixed Tryz.func71 [lv Fact.cells l,.d (.v (.int .u64 set)),.d (.v (.int .u64 values))] (fun x=>lv Fact.cells x) false (gA l set values) (A7 l set values) (u3 (FO l set values)) (fun (x:(List Fact))=>(l.length≤8∧(0≤set∧set.toNat < 2 ^ l.length)∧(0≤values∧values < 256))→(x=tC l set.toNat values.toNat)) (Cp l set values)
def gB (s:List Fact):Sk ((List Fact)) :=
 .Uk 0 s.length
 (.JG <|
 .fin [])
 (.JH <|
 .r 3 (.al (.o [.dn (dH Fact.E ([]:List Fact))]) (.al (.o [.dn (kE Fact.E ([]:List Fact) s)]) (.al (.t (Fact.E.src s)) (.p (vE (([]:List Fact).length) s.length 24))))) fun _ =>
 .fin (([]:List Fact)++s))
def qt s:=(gB s).val
theorem DI (s:List Fact):(gB s).cC (fun (x:(List Fact))=>x.length=s.length∧x=s):=by
 unfold gB
 simp [Sk.cC,dH,kE]
theorem Cq (s:List Fact):(fun (x:(List Fact))=>x.length=s.length∧x=s) (qt s):=have h:=Sk.cI _ (DI s); h
theorem FP (s:List Fact) (hs:s.length≤1000000000):(gB s).a6 (fun _=>True):=by
 unfold gB
 exact nF
theorem DJ (s:List Fact) (hs:s.length≤1000000000):eC Tryz.prog 37 [lv Fact.cells s] [] (ow 777777 (qt s)) [(777777,aU 37 3 Fact.cells (qt s))] :=
 eC.sk tok mixed (fun x=>ow 777777 x) (fun x=>[(777777,aU 37 3 Fact.cells x)]) Tryz.func37 rfl (by kernel_rfl) 3000 (gB s) (by kernel_rfl) (FP s hs)
def qu (κ:Nat) (s:List Fact):iJ ((List Fact)):=⟨Tryz.prog,37,[lv Fact.cells s],fun x=>ow κ x,fun x=>[(κ,aU 37 3 Fact.cells x)],qt s,(s.length≤1000000000),fun h=>eC.Ur κ (DJ s h),fun (x:(List Fact))=>x.length=s.length∧x=s,Cq s⟩
def oK (y:Fact) (v:Int) (v':Int):Sk (Bool) :=
 .fin ((y.kind == v)&&(y.at_ == v'))
def gU y v v':=(oK y v v').val
theorem zC (y:Fact) (v:Int) (v':Int):gU y v v'=((y.kind == v)&&(y.at_ == v')):=rfl
theorem KF (y:Fact) (v:Int) (v':Int):(oK y v v').a6 (fun _=>True):=by
 unfold oK
 exact od
def uW y v v':=kk tok mixed Tryz.func36 [av y.cells,.ref [dI v],.ref [dI v']] (fun x=>bv x) true (oK y v v') (gU y v v') (u0 (KF y v v'))
def eT (s:List Fact) (v:Int) (v':Int):Sk (Int) :=
 .bind true (fun b1=>∀ q,q < s.length→gU (s.getD q default) v v'=false)
 (.loop (default:Sum (Int) (Unit)) (fun i2=>∀ q,q < i2→gU (s.getD q default) v v'=false) (fun i2=>s.length - i2) (0:Nat)
 (fun (i2:Nat)=>⟨[(8,iv (i2:Int))],[]⟩) fun i2 =>
 .lt 0 0 i2 s.length
 (.r 4 (.al (.p (bN (i2:Int) s.length)) ((uW (s.getD i2 default) v v').c)) fun x3 =>
 .br x3
 (.fin (.inl (.inl (i2:Int))))
 (.nx 6 8 i2 (i2+1)))
 (.fin (.inl (.inr ()))))
 (fun (_:Unit)=>⟨[],[]⟩) fun _ =>
 .fin (-1)
def Cr s v v':=(eT s v v').val
theorem xW (s:List Fact) (v:Int) (v':Int):(eT s v v').cC (fun (x:Int)=>(x = -1∧∀ q,q < s.length→gU (s.getD q default) v v'=false)∨(0≤x∧x < s.length∧gU (s.getD x.toNat default) v v'=true∧∀ q,(q:Nat) < x.toNat→gU (s.getD q default) v v'=false)):=by
 unfold eT
 try simp only [uW,zC]
 exact X9
theorem yZ (s:List Fact) (v:Int) (v':Int):(eT s v v').a6 (fun _=>True):=by
 unfold eT
 try simp only [uW,zC]
 exact GD
def lQ s v v':=kp tok mixed Tryz.func38 [lv Fact.cells s,.fn 36 [.ref [dI v],.ref [dI v']]] (fun x=>iv x) true (Cr s v v') (u0 (yZ s v v')) (xW s v v')
def tD (x_:Int):Sk (Bool) :=
 .fin (x_ != x_)
def BJ x_:=(tD x_).val
theorem SJ (x_:Int):BJ x_=(x_ != x_):=rfl
theorem SK (x_:Int):(tD x_).a6 (fun _=>True):=by
 unfold tD
 exact od
def v7 x_:=kk tok mixed Tryz.func72 [iv x_] (fun x=>bv x) true (tD x_) (BJ x_) (u0 (SK x_))
def mL (x_:Int) (y:Int):Sk (Int) :=
 .r 1 ((v7 x_).c) fun x1 =>
 .r 2 ((v7 y).c) fun x2 =>
 .br x1
 (.br x2
 (.fin 0)
 (.fin (-1)))
 (.br x2
 (.fin 1)
 (.br (decide (x_ < y))
 (.fin (-1))
 (.br (decide (x_ > y))
 (.fin 1)
 (.fin 0))))
def gj x_ y:=(mL x_ y).val
theorem N4 (x_:Int) (y:Int):(mL x_ y).a6 (fun _=>True):=by
 unfold mL
 try simp only [v7,SJ]
 exact GD
def jI x_ y:=kk tok mixed Tryz.func42 [iv x_,iv y] (fun x=>iv x) true (mL x_ y) (gj x_ y) (u0 (N4 x_ y))
def xX (df:List Int):Sk (Int) :=
 .bt
 (.loop (default:Sum (Int) (Unit)) (fun i2=>i2≤df.length) (fun i2=>df.length - i2) (0:Nat)
 (fun (i2:Nat)=>⟨[(8,iv (i2:Int))],[]⟩) fun i2 =>
 .lt 6 0 i2 df.length
 (.r 4 (.p (bN (i2:Int) df.length)) fun _ =>
 .br ((df.getD i2 default) != 0)
 (.fin (.inl (.inl (df.getD i2 default))))
 (.nx 7 8 i2 (i2+1)))
 (.fin (.inl (.inr ()))))
 (fun (_:Unit)=>⟨[],[]⟩) fun _ =>
 .fin 0
def DK df:=(xX df).val
theorem ZO (df:List Int):(xX df).a6 (fun _=>True):=by
 unfold xX
 exact nF
def A8 df:=kk tok mixed Tryz.func41 [lv bS df] (fun x=>iv x) true (xX df) (DK df) (u0 (ZO df))
def oL (y:Fact) (v:Int) (v':Int):Sk (Bool) :=
 .r 1 (.dep ((jI y.at_ v).c) fun x1=>.dep ((jI y.kind v').c) fun x2=>.al (.o [.dn (dH dV [x1,x2])]) ((A8 [x1,x2]).c)) fun p4 =>
 .fin (decide (p4.2.2 > 0))
def dP y v v':=(oL y v v').val
theorem KG (y:Fact) (v:Int) (v':Int):(oL y v v').a6 (fun _=>True):=by
 unfold oL
 try simp only [jI,A8]
 exact od
def uX y v v':=kk tok mixed Tryz.func40 [av y.cells,.ref [dI v],.ref [dI v']] (fun x=>bv x) true (oL y v v') (dP y v v') (u0 (KG y v v'))
def eV (s:List Fact) (v:Int) (v':Int):Sk (Int) :=
 .bind true (fun b1=>∀ q,q < s.length→dP (s.getD q default) v v'=false)
 (.loop (default:Sum (Int) (Unit)) (fun i2=>∀ q,q < i2→dP (s.getD q default) v v'=false) (fun i2=>s.length - i2) (0:Nat)
 (fun (i2:Nat)=>⟨[(8,iv (i2:Int))],[]⟩) fun i2 =>
 .lt 0 0 i2 s.length
 (.r 4 (.al (.p (bN (i2:Int) s.length)) ((uX (s.getD i2 default) v v').c)) fun x3 =>
 .br x3
 (.fin (.inl (.inl (i2:Int))))
 (.nx 6 8 i2 (i2+1)))
 (.fin (.inl (.inr ()))))
 (fun (_:Unit)=>⟨[],[]⟩) fun _ =>
 .fin (-1)
def Cs s v v':=(eV s v v').val
theorem xY (s:List Fact) (v:Int) (v':Int):(eV s v v').cC (fun (x:Int)=>(x = -1∧∀ q,q < s.length→dP (s.getD q default) v v'=false)∨(0≤x∧x < s.length∧dP (s.getD x.toNat default) v v'=true∧∀ q,(q:Nat) < x.toNat→dP (s.getD q default) v v'=false)):=by
 unfold eV
 try simp only [uX]
 exact ET
theorem za (s:List Fact) (v:Int) (v':Int):(eV s v v').a6 (fun _=>True):=by
 unfold eV
 try simp only [uX]
 exact nF
def lR s v v':=kp tok mixed Tryz.func38 [lv Fact.cells s,.fn 40 [.ref [dI v],.ref [dI v']]] (fun x=>iv x) true (Cs s v v') (u0 (za s v v')) (xY s v v')
end
end Go.Proofs.YtkbkoaoolojhaaaGreatDoor
