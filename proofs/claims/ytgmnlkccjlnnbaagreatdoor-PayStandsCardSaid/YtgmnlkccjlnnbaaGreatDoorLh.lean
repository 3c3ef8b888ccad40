/- Functions, as sketches. -/
import Derived.Test.YtgmnlkccjlnnbaaGreatDoorLg
set_option linter.unusedSimpArgs false
set_option linter.unusedVariables false
set_option maxHeartbeats 1000000
set_option maxRecDepth 100000
namespace Go.Proofs.YtgmnlkccjlnnbaaGreatDoor
noncomputable section
open Go Go.Av
/-- half a Ow: JS abS in two Y4,JS first one RC; a digit follows -/
def HY (y1 y0 u d:Int):Prop:=(2147483648≤y1∧y1 < 4294967296)∧(0≤y0∧y0 < 4294967296)∧(0≤u∧u < y1 * 4294967296+y0)∧0≤d∧d < 4294967296
/-- a quotient O9 may be too RC -/
def HI (y1 y0 u d q r:Int):Prop:=(0≤q∧q < 18446744073709551616)∧q * y1+r=u∧(0≤r∧r < 4294967296)∧u * 4294967296+d < 4294967296 * (q * y1)+4294967296 * y1+q * y0+y0
/-- JS quotient -/
def HQ (y1 y0 u d q:Int):Prop:=(0≤q∧q < 4294967296)∧4294967296 * (q * y1)+q * y0≤u * 4294967296+d∧u * 4294967296+d < 4294967296 * (q * y1)+4294967296 * y1+q * y0+y0
theorem yE {y1 y0 u d:Int} (h:HY y1 y0 u d):HI y1 y0 u d (IntKind.u64.wrap (u.tdiv y1)) (IntKind.u64.wrap (u - IntKind.u64.wrap (IntKind.u64.wrap (u.tdiv y1) * y1))):=by
  obtain ⟨h1,h2,h3,h4⟩:=h
  have e:u.tdiv y1=u / y1:=Int.tdiv_eq_ediv_of_nonneg h3.1
  have q0:0≤u / y1:=Int.ediv_nonneg h3.1 (by omega)
  have q1:u / y1≤u:=Int.ediv_le_self _ h3.1
  have m1:=Int.mul_ediv_add_emod u y1
  have m2:=Int.emod_nonneg u (b:=y1) (by omega)
  have m3:=Int.emod_lt_of_pos u (b:=y1) (by omega)
  rw [e,dL q0 (by omega)]
  rw [Int.mul_comm y1] at m1
  rw [dL (n:=u / y1 * y1) (Int.mul_nonneg q0 (by omega)) (by omega),dL (by omega) (by omega)]
  have:=Int.mul_nonneg q0 h2.1
  refine ⟨⟨q0,by omega⟩,by omega,⟨by omega,by omega⟩,by omega⟩
theorem Kx {y1 y0 u d q r:Int} (h:HY y1 y0 u d) (hi:HI y1 y0 u d q r):(decide (q≥4294967296)||decide (IntKind.u64.wrap (q * y0) > IntKind.u64.wrap (IntKind.u64.wrap (4294967296 * r)+d)))=decide (q≥4294967296∨q * y0 > 4294967296 * r+d):=by
  obtain ⟨h1,h2,h3,h4⟩:=h
  obtain ⟨i1,i2,i3,i4⟩:=hi
  rw [dL (n:=4294967296 * r) (by omega) (by omega),dL (n:=4294967296 * r+d) (by omega) (by omega)]
  by_cases c:q≥4294967296
  · simp [c]
  · have a:q * y0≤4294967295 * y0:=Int.mul_le_mul_of_nonneg_right (by omega) h2.1
    rw [dL (n:=q * y0) (Int.mul_nonneg i1.1 h2.1) (by omega)]
    simp [c]
theorem yF {y1 y0 u d q r:Int} (h:HY y1 y0 u d) (hi:HI y1 y0 u d q r) (hc:(decide (q≥4294967296)||decide (IntKind.u64.wrap (q * y0) > IntKind.u64.wrap (IntKind.u64.wrap (4294967296 * r)+d)))=true) :
    (IntKind.u64.wrap (q - 1)).toNat < q.toNat∧(IntKind.u64.wrap (r+y1)≥4294967296→HQ y1 y0 u d (IntKind.u64.wrap (q - 1)))∧(IntKind.u64.wrap (r+y1) < 4294967296→HI y1 y0 u d (IntKind.u64.wrap (q - 1)) (IntKind.u64.wrap (r+y1))):=by
  rw [Kx h hi,decide_eq_true_eq] at hc
  obtain ⟨h1,h2,h3,h4⟩:=h
  obtain ⟨i1,i2,i3,i4⟩:=hi
  have hy:u * 4294967296+d < 4294967296 * (q * y1)+q * y0:=by
    rcases hc with c | c
    · have a:4294967296 * y1≤q * y1:=Int.mul_le_mul_of_nonneg_right c (by omega)
      have b:4294967296 * y0≤q * y0:=Int.mul_le_mul_of_nonneg_right c h2.1
      omega
    · omega
  have hq:1≤q:=by
    rcases Int.lt_or_le q 1 with c | c
    · obtain rfl:q=0:=by omega
      simp only [Int.zero_mul] at hy i2
      omega
    · exact c
  have e1:(q - 1) * y1=q * y1 - y1:=by rw [Int.sub_mul,Int.one_mul]
  have e0:(q - 1) * y0=q * y0 - y0:=by rw [Int.sub_mul,Int.one_mul]
  rw [dL (n:=q - 1) (by omega) (by omega),dL (n:=r+y1) (by omega) (by omega)]
  refine ⟨by omega,fun hr=>?_,fun hr=>?_⟩
  · have hB:q - 1 < 4294967296:=by
      rcases Int.lt_or_le (q - 1) 4294967296 with c | c
      · exact c
      · have a:4294967296 * y1≤(q - 1) * y1:=Int.mul_le_mul_of_nonneg_right c (by omega)
        omega
    have a:(q - 1) * y0≤4294967295 * y0:=Int.mul_le_mul_of_nonneg_right (by omega) h2.1
    refine ⟨⟨by omega,hB⟩,?_,?_⟩
    · rw [e1]; omega
    · rw [e1,e0]; omega
  · refine ⟨⟨by omega,by omega⟩,by rw [e1]; omega,⟨by omega,hr⟩,by rw [e1,e0]; omega⟩
theorem yG {y1 y0 u d q r:Int} (h:HY y1 y0 u d) (hi:HI y1 y0 u d q r) (hc:(decide (q≥4294967296)||decide (IntKind.u64.wrap (q * y0) > IntKind.u64.wrap (IntKind.u64.wrap (4294967296 * r)+d)))=false):HQ y1 y0 u d q:=by
  rw [Kx h hi,decide_eq_false_iff_not] at hc
  obtain ⟨i1,i2,i3,i4⟩:=hi
  exact ⟨by omega,by omega,i4⟩
/-- Ca is left -/
theorem uN {y1 y0 u d q:Int} (h:HY y1 y0 u d) (hq:HQ y1 y0 u d q):IntKind.u64.wrap (IntKind.u64.wrap (IntKind.u64.wrap (u * 4294967296)+d) - IntKind.u64.wrap (q * (y1 * 4294967296+y0)))=u * 4294967296+d - q * (y1 * 4294967296+y0)∧0≤u * 4294967296+d - q * (y1 * 4294967296+y0)∧u * 4294967296+d - q * (y1 * 4294967296+y0) < y1 * 4294967296+y0:=by
  obtain ⟨h1,h2,h3,h4⟩:=h
  obtain ⟨i1,i2,i3⟩:=hq
  have e:q * (y1 * 4294967296+y0)=4294967296 * (q * y1)+q * y0:=by rw [Int.mul_add,← Int.mul_assoc,Int.mul_comm (q * y1)]
  refine ⟨?_,by omega,by omega⟩
  simp only [Gg]
  omega
theorem Y5 {k:Nat} {q b:Int} (hq:0≤q) (hb:0≤b) (wI:b < 2 ^ k) (ha:q * 2 ^ k+b < 18446744073709551616):PL .u64 (q * 2 ^ k) b=q * 2 ^ k+b:=by
  obtain ⟨q,rfl⟩:=Int.eq_ofNat_of_zero_le hq
  obtain ⟨b,rfl⟩:=Int.eq_ofNat_of_zero_le hb
  have e:((q:Int) * 2 ^ k)=((q * 2 ^ k:Nat):Int):=by simp
  have Fb:b < 2 ^ k:=by
    have e2:((2:Int) ^ k)=((2 ^ k:Nat):Int):=by simp
    rw [e2] at wI
    exact_mod_cast wI
  rw [e] at ha ⊢
  unfold PL
  have di:q * 2 ^ k+b < 18446744073709551616:=by omega
  have h1:(BitVec.ofInt IntKind.u64.bits ((q * 2 ^ k:Nat):Int) ||| BitVec.ofInt IntKind.u64.bits ((b:Nat):Int)).toNat=q * 2 ^ k+b:=by
    rw [BitVec.toNat_or,BitVec.ofInt_natCast,BitVec.ofInt_natCast,BitVec.toNat_ofNat,BitVec.toNat_ofNat]
    have hb:IntKind.u64.bits=64:=rfl
    rw [hb,Nat.mod_eq_of_lt (by omega),Nat.mod_eq_of_lt (by omega),← Nat.shiftLeft_eq,← Nat.shiftLeft_add_eq_or_of_lt Fb,Nat.shiftLeft_eq]
  rw [h1,dL (by omega) (by omega)]
  omega
theorem Fm {a:Int} (h0:0≤a) (h1:a < 18446744073709551616):dc .u64 a 4294967295=a % 4294967296:=by
  obtain ⟨a,rfl⟩:=Int.eq_ofNat_of_zero_le h0
  unfold dc
  have h2:(BitVec.ofInt IntKind.u64.bits ((a:Nat):Int) &&& BitVec.ofInt IntKind.u64.bits 4294967295).toNat=a % 4294967296:=by
    have e:(4294967295:Int)=((4294967295:Nat):Int):=rfl
    rw [e,BitVec.toNat_and,BitVec.ofInt_natCast,BitVec.ofInt_natCast,BitVec.toNat_ofNat,BitVec.toNat_ofNat]
    have hb:IntKind.u64.bits=64:=rfl
    rw [hb,Nat.mod_eq_of_lt (by omega),Nat.mod_eq_of_lt (by omega)]
    exact Nat.and_two_pow_sub_one_eq_mod a 32
  rw [h2,dL (by omega) (by omega)]
  omega
/-- JS parts of a Ow,made RC -/
theorem Ky {hi lo y s:Int} (hy:0≤hi∧hi < y∧y < 18446744073709551616∧0≤lo∧lo < 18446744073709551616) (hs:0≤s∧s≤63∧9223372036854775808≤y * 2 ^ s.toNat∧y * 2 ^ s.toNat < 18446744073709551616) :
    ∃ U L:Int,PL .u64 (dK .u64 hi (IntKind.u64.wrap s)) (cQ .u64 lo (IntKind.u64.wrap ((64:Int) - IntKind.u64.wrap s)))=U∧dK .u64 lo (IntKind.u64.wrap s)=L∧dK .u64 y (IntKind.u64.wrap s)=y * 2 ^ s.toNat ∧
      (0≤L∧L < 18446744073709551616)∧(0≤U∧U < y * 2 ^ s.toNat)∧(hi * 18446744073709551616+lo) * 2 ^ s.toNat=U * 18446744073709551616+L:=by
  obtain ⟨h1,h2,h3,h4,h5⟩:=hy
  obtain ⟨s1,s2,s3,s4⟩:=hs
  have ew:IntKind.u64.wrap s=s:=dL s1 (by omega)
  have ew2:IntKind.u64.wrap (64 - s)=64 - s:=dL (by omega) (by omega)
  rw [ew,ew2,PN (by omega),PN (by omega),PN (by omega),Cu .u64 (b:=64 - s) (by show 0≤64 - s∧64 - s≤64; omega)]
  generalize hp:(2:Int) ^ s.toNat=p at *
  have hP:(18446744073709551616:Int)=2 ^ (64 - s).toNat * p:=by rw [← hp,← Int.pow_add,show (64 - s).toNat+s.toNat=64 by omega]; rfl
  generalize hq:(2:Int) ^ (64 - s).toNat=P at *
  have p0:0 < p:=by rw [← hp]; exact Int.pow_pos (by omega)
  have P0:0 < P:=by rw [← hq]; exact Int.pow_pos (by omega)
  have hip:hi * p≤(y - 1) * p:=Int.mul_le_mul_of_nonneg_right (by omega) (by omega)
  have ade:0≤hi * p:=Int.mul_nonneg h1 (by omega)
  have e1:(y - 1) * p=y * p - p:=by rw [Int.sub_mul,Int.one_mul]
  have b0:0≤lo / P:=Int.ediv_nonneg h4 (by omega)
  have b1:lo / P < p:=by
    rw [Int.ediv_lt_iff_lt_mul P0,Int.mul_comm]
    omega
  have eh:hi * p % 18446744073709551616=hi * p:=Int.emod_eq_of_lt ade (by omega)
  have ey:y * p % 18446744073709551616=y * p:=Int.emod_eq_of_lt (by omega) s4
  have el:lo * p / 18446744073709551616=lo / P:=by rw [hP]; exact Int.mul_ediv_mul_of_pos_left _ _ p0
  have hor:PL .u64 (hi * p) (lo / P)=hi * p+lo / P:=by
    rw [← hp]
    exact Y5 h1 b0 (by rw [hp]; exact b1) (by rw [hp]; omega)
  refine ⟨hi * p+lo / P,lo * p % 18446744073709551616,by rw [eh]; exact hor,rfl,ey,⟨by omega,by omega⟩,⟨by omega,by omega⟩,?_⟩
  have m:=Int.mul_ediv_add_emod (lo * p) 18446744073709551616
  rw [el] at m
  have e2:(hi * 18446744073709551616+lo) * p=hi * p * 18446744073709551616+lo * p:=by rw [Int.add_mul,Int.mul_right_comm]
  rw [e2]
  omega
/-- JS whole Ow out of its Y4 -/
theorem SX {N y p U L q1 q0:Int} (hy:0 < y) (hp:0 < p) (hY:9223372036854775808≤y * p∧y * p < 18446744073709551616) (hL:0≤L∧L < 18446744073709551616) (hU:0≤U∧U < y * p) (hN:N * p=U * 18446744073709551616+L)
    (h1:HQ (y * p / 4294967296) (y * p % 4294967296) U (L / 4294967296) q1)
    (h0:HQ (y * p / 4294967296) (y * p % 4294967296) (U * 4294967296+L / 4294967296 - q1 * (y * p)) (L % 4294967296) q0) :
    IntKind.u64.wrap (IntKind.u64.wrap (q1 * 4294967296)+q0)=N / y ∧
      ((U * 4294967296+L / 4294967296 - q1 * (y * p)) * 4294967296+L % 4294967296 - q0 * (y * p)) / p=N % y:=by
  have eY:y * p / 4294967296 * 4294967296+y * p % 4294967296=y * p:=by omega
  have Rz:HY (y * p / 4294967296) (y * p % 4294967296) U (L / 4294967296):=⟨⟨by omega,by omega⟩,⟨by omega,by omega⟩,⟨by omega,by omega⟩,by omega,by omega⟩
  have r1:=uN Rz h1
  rw [eY] at r1
  have Pf:HY (y * p / 4294967296) (y * p % 4294967296) (U * 4294967296+L / 4294967296 - q1 * (y * p)) (L % 4294967296):=⟨⟨by omega,by omega⟩,⟨by omega,by omega⟩,⟨by omega,by omega⟩,by omega,by omega⟩
  have r0:=uN Pf h0
  rw [eY] at r0
  have i1:=h1.1
  have i0:=h0.1
  rw [dL (n:=q1 * 4294967296) (by omega) (by omega),dL (by omega) (by omega)]
  generalize hR:(U * 4294967296+L / 4294967296 - q1 * (y * p)) * 4294967296+L % 4294967296 - q0 * (y * p)=R at *
  have e:(q1 * 4294967296+q0) * (y * p)=q1 * (y * p) * 4294967296+q0 * (y * p):=by rw [Int.add_mul,Int.mul_right_comm]
  have hq:N * p=(q1 * 4294967296+q0) * (y * p)+R:=by rw [e]; omega
  have hR2:R=(N - (q1 * 4294967296+q0) * y) * p:=by rw [Int.sub_mul,Int.mul_assoc]; omega
  have Ia:0≤N - (q1 * 4294967296+q0) * y:=by
    rcases Int.lt_or_le (N - (q1 * 4294967296+q0) * y) 0 with c | c
    · have:=Int.mul_neg_of_neg_of_pos c hp
      omega
    · exact c
  have di:N - (q1 * 4294967296+q0) * y < y:=by
    rcases Int.lt_or_le (N - (q1 * 4294967296+q0) * y) y with c | c
    · exact c
    · have:=Int.mul_le_mul_of_nonneg_right c (Int.le_of_lt hp)
      omega
  have hd:N / y=q1 * 4294967296+q0:=by
    rw [Int.ediv_eq_iff_of_pos hy]
    constructor
    · omega
    · omega
  refine ⟨hd.symm,?_⟩
  rw [hR2,Int.mul_ediv_cancel _ (by omega),Int.emod_def,hd,Int.mul_comm y]
def jF (hi:Int) (lo:Int) (y:Int):Sk (Int × Int) :=
 .bind false (fun _=>True)
 (.br (y == 0)
 (.dead default)
 (.fin (.inr ())))
 (fun (_:Unit)=>⟨[],[]⟩) fun _ =>
 .bind false (fun _=>True)
 (.br (decide (y≤hi))
 (.dead default)
 (.fin (.inr ())))
 (fun (_:Unit)=>⟨[],[]⟩) fun _ =>
 .br (hi == 0)
 (.r 6 (.al (.p (y≠0)) (.p (y≠0))) fun _ =>
 .fin (IntKind.u64.wrap (lo.tdiv y),lo.tmod y))
 (.r 7 ((jM y).c) fun x3 =>
 .r 8 (.p (0≤(IntKind.u64.wrap (x3)))) fun _ =>
 .r 9 (.p (0≤(32:Int))) fun _ =>
 .r 11 (.al (.p (0≤(IntKind.u64.wrap (x3)))) (.p (0≤(IntKind.u64.wrap ((64:Int) - (IntKind.u64.wrap (x3))))))) fun _ =>
 .r 12 (.p (0≤(IntKind.u64.wrap (x3)))) fun _ =>
 .r 13 (.p (0≤(32:Int))) fun _ =>
 .r 15 (.p ((cQ .u64 (dK .u64 y (IntKind.u64.wrap (x3))) 32)≠0)) fun _ =>
 .bind true (fun b4=>HQ (cQ .u64 (dK .u64 y (IntKind.u64.wrap (x3))) 32) (dc .u64 (dK .u64 y (IntKind.u64.wrap (x3))) 4294967295) (PL .u64 (dK .u64 hi (IntKind.u64.wrap (x3))) (cQ .u64 lo (IntKind.u64.wrap ((64:Int) - (IntKind.u64.wrap (x3)))))) (cQ .u64 (dK .u64 lo (IntKind.u64.wrap (x3))) 32) b4.1)
 (.loop (default:Sum (Int × Int) (Int × Int)) (fun i5=>HI (cQ .u64 (dK .u64 y (IntKind.u64.wrap (x3))) 32) (dc .u64 (dK .u64 y (IntKind.u64.wrap (x3))) 4294967295) (PL .u64 (dK .u64 hi (IntKind.u64.wrap (x3))) (cQ .u64 lo (IntKind.u64.wrap ((64:Int) - (IntKind.u64.wrap (x3)))))) (cQ .u64 (dK .u64 lo (IntKind.u64.wrap (x3))) 32) i5.1 i5.2) (fun i5=>i5.1.toNat) ((IntKind.u64.wrap ((PL .u64 (dK .u64 hi (IntKind.u64.wrap (x3))) (cQ .u64 lo (IntKind.u64.wrap ((64:Int) - (IntKind.u64.wrap (x3)))))).tdiv (cQ .u64 (dK .u64 y (IntKind.u64.wrap (x3))) 32)),IntKind.u64.wrap ((PL .u64 (dK .u64 hi (IntKind.u64.wrap (x3))) (cQ .u64 lo (IntKind.u64.wrap ((64:Int) - (IntKind.u64.wrap (x3)))))) - (IntKind.u64.wrap ((IntKind.u64.wrap ((PL .u64 (dK .u64 hi (IntKind.u64.wrap (x3))) (cQ .u64 lo (IntKind.u64.wrap ((64:Int) - (IntKind.u64.wrap (x3)))))).tdiv (cQ .u64 (dK .u64 y (IntKind.u64.wrap (x3))) 32))) * (cQ .u64 (dK .u64 y (IntKind.u64.wrap (x3))) 32))))):Int × Int)
 (fun (i5:Int × Int)=>⟨[(15,.d (.v (.int .u64 i5.1))),(16,.d (.v (.int .u64 i5.2)))],[]⟩) fun i5 =>
 .br ((decide (i5.1≥4294967296))||(decide ((IntKind.u64.wrap (i5.1 * (dc .u64 (dK .u64 y (IntKind.u64.wrap (x3))) 4294967295))) > (IntKind.u64.wrap ((IntKind.u64.wrap ((4294967296:Int) * i5.2))+(cQ .u64 (dK .u64 lo (IntKind.u64.wrap (x3))) 32))))))
 (.br (decide ((IntKind.u64.wrap (i5.2+(cQ .u64 (dK .u64 y (IntKind.u64.wrap (x3))) 32)))≥4294967296))
 (.fin (.inl (.inr (IntKind.u64.wrap (i5.1 - 1),IntKind.u64.wrap (i5.2+(cQ .u64 (dK .u64 y (IntKind.u64.wrap (x3))) 32))))))
 (.fin (.inr (IntKind.u64.wrap (i5.1 - 1),IntKind.u64.wrap (i5.2+(cQ .u64 (dK .u64 y (IntKind.u64.wrap (x3))) 32))))))
 (.fin (.inl (.inr (i5.1,i5.2)))))
 (fun (b4:Int × Int)=>⟨[(15,.d (.v (.int .u64 b4.1))),(16,.d (.v (.int .u64 b4.2)))],[]⟩) fun b4 =>
 .r 22 (.p ((cQ .u64 (dK .u64 y (IntKind.u64.wrap (x3))) 32)≠0)) fun _ =>
 .bind true (fun b6=>HQ (cQ .u64 (dK .u64 y (IntKind.u64.wrap (x3))) 32) (dc .u64 (dK .u64 y (IntKind.u64.wrap (x3))) 4294967295) (IntKind.u64.wrap ((IntKind.u64.wrap ((IntKind.u64.wrap ((PL .u64 (dK .u64 hi (IntKind.u64.wrap (x3))) (cQ .u64 lo (IntKind.u64.wrap ((64:Int) - (IntKind.u64.wrap (x3)))))) * 4294967296))+(cQ .u64 (dK .u64 lo (IntKind.u64.wrap (x3))) 32))) - (IntKind.u64.wrap (b4.1 * (dK .u64 y (IntKind.u64.wrap (x3))))))) (dc .u64 (dK .u64 lo (IntKind.u64.wrap (x3))) 4294967295) b6)
 (.loop (default:Sum (Int × Int) (Int)) (fun i7=>HI (cQ .u64 (dK .u64 y (IntKind.u64.wrap (x3))) 32) (dc .u64 (dK .u64 y (IntKind.u64.wrap (x3))) 4294967295) (IntKind.u64.wrap ((IntKind.u64.wrap ((IntKind.u64.wrap ((PL .u64 (dK .u64 hi (IntKind.u64.wrap (x3))) (cQ .u64 lo (IntKind.u64.wrap ((64:Int) - (IntKind.u64.wrap (x3)))))) * 4294967296))+(cQ .u64 (dK .u64 lo (IntKind.u64.wrap (x3))) 32))) - (IntKind.u64.wrap (b4.1 * (dK .u64 y (IntKind.u64.wrap (x3))))))) (dc .u64 (dK .u64 lo (IntKind.u64.wrap (x3))) 4294967295) i7.2 i7.1) (fun i7=>i7.2.toNat) ((IntKind.u64.wrap ((IntKind.u64.wrap ((IntKind.u64.wrap ((IntKind.u64.wrap ((PL .u64 (dK .u64 hi (IntKind.u64.wrap (x3))) (cQ .u64 lo (IntKind.u64.wrap ((64:Int) - (IntKind.u64.wrap (x3)))))) * 4294967296))+(cQ .u64 (dK .u64 lo (IntKind.u64.wrap (x3))) 32))) - (IntKind.u64.wrap (b4.1 * (dK .u64 y (IntKind.u64.wrap (x3))))))) - (IntKind.u64.wrap ((IntKind.u64.wrap ((IntKind.u64.wrap ((IntKind.u64.wrap ((IntKind.u64.wrap ((PL .u64 (dK .u64 hi (IntKind.u64.wrap (x3))) (cQ .u64 lo (IntKind.u64.wrap ((64:Int) - (IntKind.u64.wrap (x3)))))) * 4294967296))+(cQ .u64 (dK .u64 lo (IntKind.u64.wrap (x3))) 32))) - (IntKind.u64.wrap (b4.1 * (dK .u64 y (IntKind.u64.wrap (x3))))))).tdiv (cQ .u64 (dK .u64 y (IntKind.u64.wrap (x3))) 32))) * (cQ .u64 (dK .u64 y (IntKind.u64.wrap (x3))) 32)))),IntKind.u64.wrap ((IntKind.u64.wrap ((IntKind.u64.wrap ((IntKind.u64.wrap ((PL .u64 (dK .u64 hi (IntKind.u64.wrap (x3))) (cQ .u64 lo (IntKind.u64.wrap ((64:Int) - (IntKind.u64.wrap (x3)))))) * 4294967296))+(cQ .u64 (dK .u64 lo (IntKind.u64.wrap (x3))) 32))) - (IntKind.u64.wrap (b4.1 * (dK .u64 y (IntKind.u64.wrap (x3))))))).tdiv (cQ .u64 (dK .u64 y (IntKind.u64.wrap (x3))) 32))):Int × Int)
 (fun (i7:Int × Int)=>⟨[(16,.d (.v (.int .u64 i7.1))),(18,.d (.v (.int .u64 i7.2)))],[]⟩) fun i7 =>
 .br ((decide (i7.2≥4294967296))||(decide ((IntKind.u64.wrap (i7.2 * (dc .u64 (dK .u64 y (IntKind.u64.wrap (x3))) 4294967295))) > (IntKind.u64.wrap ((IntKind.u64.wrap ((4294967296:Int) * i7.1))+(dc .u64 (dK .u64 lo (IntKind.u64.wrap (x3))) 4294967295))))))
 (.br (decide ((IntKind.u64.wrap (i7.1+(cQ .u64 (dK .u64 y (IntKind.u64.wrap (x3))) 32)))≥4294967296))
 (.fin (.inl (.inr (IntKind.u64.wrap (i7.2 - 1)))))
 (.fin (.inr (IntKind.u64.wrap (i7.1+(cQ .u64 (dK .u64 y (IntKind.u64.wrap (x3))) 32)),IntKind.u64.wrap (i7.2 - 1)))))
 (.fin (.inl (.inr i7.2))))
 (fun (b6:Int)=>⟨[(18,.d (.v (.int .u64 b6)))],[]⟩) fun b6 =>
 .r 28 (.p (0≤(IntKind.u64.wrap (x3)))) fun _ =>
 .fin (IntKind.u64.wrap ((IntKind.u64.wrap (b4.1 * 4294967296))+b6),cQ .u64 (IntKind.u64.wrap ((IntKind.u64.wrap ((IntKind.u64.wrap ((IntKind.u64.wrap ((IntKind.u64.wrap ((IntKind.u64.wrap ((PL .u64 (dK .u64 hi (IntKind.u64.wrap (x3))) (cQ .u64 lo (IntKind.u64.wrap ((64:Int) - (IntKind.u64.wrap (x3)))))) * 4294967296))+(cQ .u64 (dK .u64 lo (IntKind.u64.wrap (x3))) 32))) - (IntKind.u64.wrap (b4.1 * (dK .u64 y (IntKind.u64.wrap (x3))))))) * 4294967296))+(dc .u64 (dK .u64 lo (IntKind.u64.wrap (x3))) 4294967295))) - (IntKind.u64.wrap (b6 * (dK .u64 y (IntKind.u64.wrap (x3))))))) (IntKind.u64.wrap (x3))))
def Hy hi lo y:=(jF hi lo y).val
theorem Hz (hi:Int) (lo:Int) (y:Int) (hP:0≤hi∧hi < y∧y < 18446744073709551616∧0≤lo∧lo < 18446744073709551616):(jF hi lo y).cC (fun (x:Int × Int)=>x.1=(hi * 18446744073709551616+lo) / y∧x.2=(hi * 18446744073709551616+lo) % y):=by
  refine Sk.aX _ ?_
  unfold jF
  simp only [Sk.cx,Sk.aI,reduceCtorEq,ON,kk,kp,jM,maxLen]
  refine ⟨fun h=>by simp only [LN] at h; omega,fun _ _=>⟨fun h=>by simp only [LN] at h; omega,fun _ _=>⟨fun h0 _=>?_,fun _ x _ hx=>?_⟩⟩⟩
  · simp only [LN] at h0
    subst h0
    have e:=Int.tdiv_eq_ediv_of_nonneg (a:=lo) (b:=y) hP.2.2.2.1
    have e2:=Int.tmod_eq_emod_of_nonneg (a:=lo) (b:=y) hP.2.2.2.1
    have q0:0≤lo / y:=Int.ediv_nonneg hP.2.2.2.1 (by omega)
    have q1:lo / y≤lo:=Int.ediv_le_self _ hP.2.2.2.1
    rw [e,e2,dL q0 (by omega)]
    simp
  · have hx:=hx ⟨by omega,by omega⟩
    obtain ⟨U,L,eU,eL,eY,hL,hU,hN⟩:=Ky hP hx
    simp only [eU,eL,eY,RB]
    have hp:(0:Int) < 2 ^ x.toNat:=Int.pow_pos (by omega)
    have es:∀ a:Int,cQ .u64 a (IntKind.u64.wrap x)=a / 2 ^ x.toNat:=fun a=>by
      rw [dL hx.1 (by omega)]
      exact Cu .u64 (b:=x) (by show 0≤x∧x≤64; omega)
    simp only [es]
    have hw:=fun q1 q0=>SX (y:=y) (q1:=q1) (q0:=q0) (by omega) hp hx.2.2 hL hU hN
    generalize hYY:y * 2 ^ x.toNat=Y at *
    rw [Fm (by omega) hx.2.2.2,Fm hL.1 hL.2]
    have eY2:Y / 4294967296 * 4294967296+Y % 4294967296=Y:=by omega
    have Rz:HY (Y / 4294967296) (Y % 4294967296) U (L / 4294967296):=⟨⟨by omega,by omega⟩,⟨by omega,by omega⟩,⟨by omega,by omega⟩,by omega,by omega⟩
    intro _ _ _ _ _ _
    refine ⟨⟨yE Rz,fun i hi=>⟨fun hc=>?_,fun hc=>yG Rz hi hc⟩⟩,fun b hb=>?_⟩
    · have h:=yF Rz hi hc
      exact ⟨fun h2=>h.2.1 (of_decide_eq_true h2),fun h2=>⟨h.2.2 (Int.not_le.1 (of_decide_eq_false h2)),h.1⟩⟩
    · have r1:=uN Rz hb
      rw [eY2] at r1
      rw [r1.1]
      have Pf:HY (Y / 4294967296) (Y % 4294967296) (U * 4294967296+L / 4294967296 - b.1 * Y) (L % 4294967296):=⟨⟨by omega,by omega⟩,⟨by omega,by omega⟩,⟨by omega,by omega⟩,by omega,by omega⟩
      intro _
      refine ⟨⟨yE Pf,fun i hi=>⟨fun hc=>?_,fun hc=>yG Pf hi hc⟩⟩,fun q hq=>?_⟩
      · have h:=yF Pf hi hc
        exact ⟨fun h2=>h.2.1 (of_decide_eq_true h2),fun h2=>⟨h.2.2 (Int.not_le.1 (of_decide_eq_false h2)),h.1⟩⟩
      · intro _
        have r0:=uN Pf hq
        rw [eY2] at r0
        rw [r0.1]
        exact hw _ _ hb hq

theorem ES (hi:Int) (lo:Int) (y:Int):(fun (x:Int × Int)=>(0≤hi∧hi < y∧y < 18446744073709551616∧0≤lo∧lo < 18446744073709551616)→(x.1=(hi * 18446744073709551616+lo) / y∧x.2=(hi * 18446744073709551616+lo) % y)) (Hy hi lo y):=fun hP=>Sk.cZ _ (Hz hi lo y hP)
theorem Jg (hi:Int) (lo:Int) (y:Int) (hy:0≤hi∧hi < y∧y < 18446744073709551616∧0≤lo∧lo < 18446744073709551616):(jF hi lo y).aZ (fun _=>True):=by
  refine Sk.aU _ ?_
  unfold jF
  simp only [Sk.jb,Sk.aI,reduceCtorEq,ON,kk,kp,jM,maxLen]
  refine ⟨fun h=>by simp only [LN] at h; omega,fun _ _=>⟨fun h=>by simp only [LN] at h; omega,fun _ _=>⟨fun _=>by omega,fun _=>⟨by omega,fun x _ hx=>?_⟩⟩⟩⟩
  have hx:=hx ⟨by omega,by omega⟩
  obtain ⟨U,L,eU,eL,eY,hL,hU,hN⟩:=Ky hy hx
  simp only [eU,eL,eY,RB]
  have hp:(0:Int) < 2 ^ x.toNat:=Int.pow_pos (by omega)
  generalize hYY:y * 2 ^ x.toNat=Y at *
  rw [Fm (by omega) hx.2.2.2,Fm hL.1 hL.2]
  have eY2:Y / 4294967296 * 4294967296+Y % 4294967296=Y:=by omega
  have hn:Y / 4294967296≠0:=by omega
  have Rz:HY (Y / 4294967296) (Y % 4294967296) U (L / 4294967296):=⟨⟨by omega,by omega⟩,⟨by omega,by omega⟩,⟨by omega,by omega⟩,by omega,by omega⟩
  refine ⟨(il _).1,fun _=>⟨by decide,fun _=>⟨⟨(il _).1,(il _).1⟩,fun _=>⟨(il _).1,fun _=>⟨by decide,fun _=>⟨hn,fun _=>⟨⟨yE Rz,fun i hi=>⟨fun hc=>?_,fun hc=>yG Rz hi hc⟩⟩,fun b hb=>⟨hn,fun _=>?_⟩⟩⟩⟩⟩⟩⟩⟩
  · have h:=yF Rz hi hc
    exact ⟨fun h2=>h.2.1 (of_decide_eq_true h2),fun h2=>⟨h.2.2 (Int.not_le.1 (of_decide_eq_false h2)),h.1⟩⟩
  · have r1:=uN Rz hb
    rw [eY2] at r1
    rw [r1.1]
    have Pf:HY (Y / 4294967296) (Y % 4294967296) (U * 4294967296+L / 4294967296 - b.1 * Y) (L % 4294967296):=⟨⟨by omega,by omega⟩,⟨by omega,by omega⟩,⟨by omega,by omega⟩,by omega,by omega⟩
    refine ⟨⟨yE Pf,fun i hi=>⟨fun hc=>?_,fun hc=>yG Pf hi hc⟩⟩,fun q hq=>(il _).1⟩
    have h:=yF Pf hi hc
    exact ⟨fun h2=>h.2.1 (of_decide_eq_true h2),fun h2=>⟨h.2.2 (Int.not_le.1 (of_decide_eq_false h2)),h.1⟩⟩

def k8 hi lo y:=kk tok mixed Tryz.func166 [.d (.v (.int .u64 hi)),.d (.v (.int .u64 lo)),.d (.v (.int .u64 y))] (fun x=>.eD [.d (.v (.int .u64 x.1)),.d (.v (.int .u64 x.2))]) true (jF hi lo y) (Hy hi lo y) (Jg hi lo y) (fun (x:Int × Int)=>(0≤hi∧hi < y∧y < 18446744073709551616∧0≤lo∧lo < 18446744073709551616)→(x.1=(hi * 18446744073709551616+lo) / y∧x.2=(hi * 18446744073709551616+lo) % y)) (ES hi lo y)
def jG (a:Int) (b:Int) (c_:Int):Sk (Int × Int × Bool) :=
 .r 1 ((gI (IntKind.u64.wrap (a)) (IntKind.u64.wrap (b))).c) fun x1 =>
 .br (decide (x1.1≥(IntKind.u64.wrap (c_))))
 (.fin (0,0,false))
 (.r 4 ((k8 x1.1 x1.2 (IntKind.u64.wrap (c_))).c) fun x2 =>
 .br (decide (x2.1 > 1099511627776))
 (.fin (0,0,false))
 (.fin (aq (x2.1),aq (x2.2),true)))
def HA a b c_:=(jG a b c_).val
theorem HB (a:Int) (b:Int) (c_:Int) (hP:(0≤a∧a≤9223372036854775807)∧(0≤b∧b≤9223372036854775807)∧0 < c_∧c_≤9223372036854775807):(jG a b c_).cC (fun (x:Int × Int × Bool)=>x.2.2=true→(0≤x.1∧x.1≤1099511627776)∧x.1=a * b / c_∧x.2.1=a * b % c_):=by
  refine Sk.aX _ ?_
  unfold jG
  simp only [Sk.cx,Sk.aI,reduceCtorEq,ON,kk,kp,k8,gI,maxLen]
  obtain ⟨ha,hb,R1,B6⟩:=hP
  rw [dL (n:=a) ha.1 (by omega),dL (n:=b) hb.1 (by omega),dL (n:=c_) (by omega) (by omega)]
  intro x _ hx
  obtain ⟨x1,x2,x3⟩:=hx ⟨⟨ha.1,by omega⟩,hb.1,by omega⟩
  intro hc y _ hy hc3
  simp only [LN] at hc hc3
  have hy:=hy ⟨x1.1,by omega,by omega,x2.1,x2.2⟩
  rw [x3] at hy
  have q0:0≤a * b / c_:=Int.ediv_nonneg (Int.mul_nonneg ha.1 hb.1) (by omega)
  have m0:=Int.emod_nonneg (a * b) (b:=c_) (by omega)
  have m1:=Int.emod_lt_of_pos (a * b) (b:=c_) R1
  rw [aD (n:=y.1) (by omega) (by omega),aD (n:=y.2) (by omega) (by omega)]
  omega

theorem ET (a:Int) (b:Int) (c_:Int):(fun (x:Int × Int × Bool)=>((0≤a∧a≤9223372036854775807)∧(0≤b∧b≤9223372036854775807)∧0 < c_∧c_≤9223372036854775807)→(x.2.2=true→(0≤x.1∧x.1≤1099511627776)∧x.1=a * b / c_∧x.2.1=a * b % c_)) (HA a b c_):=fun hP=>Sk.cZ _ (HB a b c_ hP)
theorem Jh (a:Int) (b:Int) (c_:Int):(jG a b c_).aZ (fun _=>True):=by
  refine Sk.aU _ ?_
  unfold jG
  simp only [Sk.jb,Sk.aI,reduceCtorEq,ON,kk,kp,k8,gI,maxLen]
  intro x _ h hc
  simp only [LN] at hc
  obtain ⟨x1,x2,-⟩:=h ⟨il _,il _⟩
  exact ⟨x1.1,by omega,(il _).2,x2.1,x2.2⟩

def vK a b c_:=kk tok mixed Tryz.func162 [iv a,iv b,iv c_] (fun x=>.eD [iv x.1,iv x.2.1,bv x.2.2]) true (jG a b c_) (HA a b c_) (u0 (Jh a b c_)) (fun (x:Int × Int × Bool)=>((0≤a∧a≤9223372036854775807)∧(0≤b∧b≤9223372036854775807)∧0 < c_∧c_≤9223372036854775807)→(x.2.2=true→(0≤x.1∧x.1≤1099511627776)∧x.1=a * b / c_∧x.2.1=a * b % c_)) (ET a b c_)
def gR (sum:Int) (fF:Int) (from_:Int) (bP:Int) (basis:Int):Sk (Int × Int) :=
 .r 1 (.dep ((iR sum 1099511627776).c) fun x1=>.dep (.wh (!x1) false ((iR fF 1000).c)) fun x2=>.dep (.wh ((!x1)||(!x2)) false ((iR from_ 100000).c)) fun x3=>.wh (((!x1)||(!x2))||(!x3)) false ((iR bP 100000).c)) fun p6 =>
 .br ((((((!p6.1)||(!p6.2.1))||(!p6.2.2.1))||(!p6.2.2.2))||(decide (bP < from_)))||((basis != 360)&&(basis != 365)))
 (.fin (0,1))
 (.r 3 ((vK sum (aq (fF * (aq (bP - from_)))) (aq ((1000:Int) * basis))).c) fun x5 =>
 .br (!x5.2.2)
 (.fin (0,3))
 (.fin (x5.1,0)))
def HC sum fF from_ bP basis:=(gR sum fF from_ bP basis).val
theorem Au (sum:Int) (fF:Int) (from_:Int) (bP:Int) (basis:Int):(gR sum fF from_ bP basis).cC (fun (x:Int × Int)=>0≤x.1∧x.1≤1099511627776):=by
  refine Sk.aX _ ?_
  unfold gR
  simp only [Sk.cx,Sk.aI,reduceCtorEq,ON,kk,kp,vK,iR,wo,forall_eq,maxLen]
  refine ⟨fun _=>⟨by decide,by decide⟩,fun hc h=>⟨fun _=>⟨by decide,by decide⟩,fun B6=>?_⟩⟩
  simp only [LN] at hc B6
  have hp0:0≤fF * (bP - from_):=Int.mul_nonneg (by omega) (by omega)
  have hp1:fF * (bP - from_)≤1000 * (bP - from_):=Int.mul_le_mul_of_nonneg_right (by omega) (by omega)
  rw [aD (n:=bP - from_) (by omega) (by omega),aD (n:=fF * (bP - from_)) (by omega) (by omega),aD (n:=1000 * basis) (by omega) (by omega)] at h B6 ⊢
  exact (h ⟨by omega,by omega,by omega⟩ B6).1

theorem B1 (sum:Int) (fF:Int) (from_:Int) (bP:Int) (basis:Int):(gR sum fF from_ bP basis).aZ (fun _=>True):=by
  unfold gR
  try simp only [vK,iR,wo]
  exact wx

def oJ sum fF from_ bP basis:=kp tok mixed Tryz.func122 [iv sum,iv fF,iv from_,iv bP,iv basis] (fun x=>.eD [iv x.1,iv x.2]) true (HC sum fF from_ bP basis) (u0 (B1 sum fF from_ bP basis)) (Au sum fF from_ bP basis)
def gd (sum:Int) (mW:Int) (from_:Int) (bP:Int):Sk (Int) :=
 .r 1 ((oJ sum mW from_ bP 360).c) fun x1 =>
 .br (x1.2 == 3)
 (.fin 1099511627776)
 (.fin x1.1)
def EU sum mW from_ bP:=(gd sum mW from_ bP).val
theorem zf (sum:Int) (mW:Int) (from_:Int) (bP:Int):(gd sum mW from_ bP).cC (fun (x:Int)=>0≤x∧x≤1099511627776):=by
  unfold gd
  try simp only [oJ]
  exact B7

theorem Aw (sum:Int) (mW:Int) (from_:Int) (bP:Int):(gd sum mW from_ bP).aZ (fun _=>True):=by
  unfold gd
  try simp only [oJ]
  exact mO

def nK sum mW from_ bP:=kp tok mixed Tryz.func69 [iv sum,iv mW,iv from_,iv bP] (fun x=>iv x) true (EU sum mW from_ bP) (u0 (Aw sum mW from_ bP)) (zf sum mW from_ bP)
structure kb where
  num:Int
  den:Int
  deriving Inhabited
def kb.cells (c:kb):List D:=[dI c.num,dI c.den]
def kA (bn:List mw) (from_:Int) (bP:Int) (day:Int):Sk (Int) :=
 .bind true (fun b1=>b1 = -1∨(0≤b1∧b1 < (bn.length:Int)))
 (.loop (default:Sum (Int) (Int)) (fun i2=>i2.2≤bn.length∧(i2.1 = -1∨(0≤i2.1∧i2.1 < (bn.length:Int)))) (fun i2=>bn.length - i2.2) (((-1),0):Int × Nat)
 (fun (i2:Int × Nat)=>⟨[(9,iv i2.1),(14,iv ((i2.2:Nat):Int))],[]⟩) fun i2 =>
 .lt 0 0 i2.2 bn.length
 (.r 4 (.p (bA ((i2.2:Nat):Int) bn.length)) fun _ =>
 .r 5 (.wh (((((bn.getD i2.2 default).from_) == from_)&&(((bn.getD i2.2 default).bP) == bP))&&(decide (((bn.getD i2.2 default).since)≤day))) true (.wh (decide (i2.1 < 0)) false (.p (bA i2.1 bn.length)))) fun _ =>
 .br ((((((bn.getD i2.2 default).from_) == from_)&&(((bn.getD i2.2 default).bP) == bP))&&(decide (((bn.getD i2.2 default).since)≤day)))&&((decide (i2.1 < 0))||(decide (((bn.getD i2.2 default).since) > ((bn.getD i2.1.toNat default).since)))))
 (.r 7 .z fun _ =>
 .wi 14 (aq (((i2.2:Nat):Int)+1)) ((i2.2+1:Nat):Int) <|
 .fin (.inr (((i2.2:Nat):Int),i2.2+1)))
 (.nx 7 14 i2.2 (i2.1,i2.2+1)))
 (.fin (.inl (.inr i2.1))))
 (fun (b1:Int)=>⟨[(9,iv b1)],[]⟩) fun b1 =>
 .fin b1
def Ox bn from_ bP day:=(kA bn from_ bP day).val
theorem EV (bn:List mw) (from_:Int) (bP:Int) (day:Int):(kA bn from_ bP day).cC (fun (x:Int)=>x = -1∨(0≤x∧x < (bn.length:Int))):=by
  unfold kA
  exact B7

theorem HD (bn:List mw) (from_:Int) (bP:Int) (day:Int):(kA bn from_ bP day).aZ (fun _=>True):=by
  unfold kA
  exact mu

def pg bn from_ bP day:=kp tok mixed Tryz.func163 [lv mw.cells bn,iv from_,iv bP,iv day] (fun x=>iv x) true (Ox bn from_ bP day) (u0 (HD bn from_ bP day)) (EV bn from_ bP day)
def nL (n:Int):Sk (Int) :=
 .br (decide (n < 0))
 (.fin (IntKind.u64.wrap (0 - (IntKind.u64.wrap (n)))))
 (.fin (IntKind.u64.wrap (n)))
def SY n:=(nL n).val
theorem Ji (n:Int):(nL n).cC (fun (x:Int)=>0≤x∧x < 18446744073709551616∧(0≤n→n≤9223372036854775807→x=n)):=by
  refine Sk.aX _ ?_
  unfold nL
  simp only [Sk.cx,Sk.aI,reduceCtorEq,ON,kk,kp,maxLen]
  refine ⟨fun hc=>⟨(il _).1,(il _).2,fun h=>?_⟩,fun _=>⟨(il _).1,(il _).2,fun h1 h2=>dL h1 (by omega)⟩⟩
  simp only [LN] at hc
  omega

theorem LX (n:Int):(nL n).aZ (fun _=>True):=by
  unfold nL
  exact mO

def s9 n:=kp tok mixed Tryz.func202 [iv n] (fun x=>.d (.v (.int .u64 x))) true (SY n) (u0 (LX n)) (Ji n)
theorem Vi {p q:Int} (hp:0≤p) (hq:0≤q):q.gcd (p.tmod q)=p.gcd q:=by
  obtain ⟨p,rfl⟩:=Int.eq_ofNat_of_zero_le hp
  obtain ⟨q,rfl⟩:=Int.eq_ofNat_of_zero_le hq
  rw [Int.tmod_eq_emod_of_nonneg (by omega),← Int.natCast_emod,Int.gcd_natCast_natCast,Int.gcd_natCast_natCast,Nat.gcd_comm q,Nat.gcd_comm p q,Nat.gcd_rec q p]
theorem Kz {i:Int × Int} {a b:Int} (hi:0≤i.1∧0≤i.2∧Int.gcd i.1 i.2=Int.gcd a b) (h:i.2≠0):(0≤i.2∧0≤i.1.tmod i.2∧Int.gcd i.2 (i.1.tmod i.2)=Int.gcd a b)∧(i.1.tmod i.2).toNat < i.2.toNat:=by
  have h1:=Int.tmod_nonneg i.2 hi.1
  have h2:=Int.tmod_lt_of_pos i.1 (b:=i.2) (by omega)
  exact ⟨⟨hi.2.1,h1,(Vi hi.1 hi.2.1).trans hi.2.2⟩,by omega⟩
theorem RD {i:Int × Int} {a b:Int} (hi:0≤i.1∧0≤i.2∧Int.gcd i.1 i.2=Int.gcd a b) (h:i.2=0):i.1=(Int.gcd a b:Int):=by
  rw [← hi.2.2,h]
  have:=hi.1
  simp [Int.gcd_zero_right]
  omega
theorem Oy {n:Int} {g:Int} (hn:1≤n∧n≤1073741824) (hg:0 < g) (hd:g∣n):1≤IntKind.u64.wrap (n.tdiv g)∧IntKind.u64.wrap (n.tdiv g)≤1073741824:=by
  have e:n.tdiv g=n / g:=Int.tdiv_eq_ediv_of_nonneg (by omega)
  have h1:g≤n:=Int.le_of_dvd (by omega) hd
  have h2:1≤n / g:=(Int.le_ediv_iff_mul_le hg).2 (by omega)
  have h3:n / g≤n:=Int.ediv_le_self _ (by omega)
  rw [e,dL (by omega) (by omega)]
  omega
def k9 (a:Int) (b:Int):Sk (Int) :=
 .bind true (fun b1=>b1=(Int.gcd a b:Int))
 (.loop (default:Sum (Int) (Int)) (fun i2=>0≤i2.1∧0≤i2.2∧Int.gcd i2.1 i2.2=Int.gcd a b) (fun i2=>i2.2.toNat) ((a,b):Int × Int)
 (fun (i2:Int × Int)=>⟨[(0,.d (.v (.int .u64 i2.1))),(1,.d (.v (.int .u64 i2.2)))],[]⟩) fun i2 =>
 .br (i2.2 != 0)
 (.r 2 (.p (i2.2≠0)) fun _ =>
 .fin (.inr (i2.2,i2.1.tmod i2.2)))
 (.fin (.inl (.inr i2.1))))
 (fun (b1:Int)=>⟨[(0,.d (.v (.int .u64 b1)))],[]⟩) fun b1 =>
 .fin b1
def KA a b:=(k9 a b).val
theorem Jj (a:Int) (b:Int) (hP:0≤a∧0≤b):(k9 a b).cC (fun (x:Int)=>x=(Int.gcd a b:Int)):=by
  refine Sk.aX _ ?_
  unfold k9
  simp only [Sk.cx,Sk.aI,reduceCtorEq,ON,kk,kp,maxLen]
  exact ⟨⟨hP,fun i hi=>⟨fun hc _=>Kz hi (by simpa using hc),fun hc=>RD hi (by simpa using hc)⟩⟩,fun b hb=>hb⟩

theorem HE (a:Int) (b:Int):(fun (x:Int)=>(0≤a∧0≤b)→(x=(Int.gcd a b:Int))) (KA a b):=fun hP=>Sk.cZ _ (Jj a b hP)
theorem LY (a:Int) (b:Int) (ha:0≤a∧0≤b):(k9 a b).aZ (fun _=>True):=by
  refine Sk.aU _ ?_
  unfold k9
  simp only [Sk.jb,Sk.aI,reduceCtorEq,ON,kk,kp,maxLen]
  exact ⟨ha,fun i hi=>⟨fun hc=>⟨by simpa using hc,fun _=>Kz hi (by simpa using hc)⟩,fun hc=>RD hi (by simpa using hc)⟩⟩

def yd a b:=kk tok mixed Tryz.func203 [.d (.v (.int .u64 a)),.d (.v (.int .u64 b))] (fun x=>.d (.v (.int .u64 x))) true (k9 a b) (KA a b) (LY a b) (fun (x:Int)=>(0≤a∧0≤b)→(x=(Int.gcd a b:Int))) (HE a b)
structure EW where
  hi:Int
  lo:Int
  deriving Inhabited
def EW.cells (c:EW):List D:=[.v (.int .u64 c.hi),.v (.int .u64 c.lo)]
def jH (negative:Bool) (num:EW) (den:EW):Sk (kb × Int) :=
 .br ((((decide (num.hi > 0))||(decide (den.hi > 0)))||(decide (num.lo > 1152921504606846976)))||(decide (den.lo > 1152921504606846976)))
 (.fin (({ num:=0,den:=0 }:kb),3))
 (.br negative
 (.fin (({ num:=aq (0 - (aq (num.lo))),den:=aq (den.lo) }:kb),0))
 (.fin (({ num:=aq (num.lo),den:=aq (den.lo) }:kb),0)))
def HF negative num den:=(jH negative num den).val
theorem HG (negative:Bool) (num:EW) (den:EW) (hP:num.hi=0∧den.hi=0∧negative=false∧(1≤num.lo∧num.lo≤1073741824)∧1≤den.lo∧den.lo≤1073741824):(jH negative num den).cC (fun (x:kb × Int)=>x.1.num=num.lo∧x.1.den=den.lo):=by
  unfold jH
  exact B7

theorem EX (negative:Bool) (num:EW) (den:EW):(fun (x:kb × Int)=>(num.hi=0∧den.hi=0∧negative=false∧(1≤num.lo∧num.lo≤1073741824)∧1≤den.lo∧den.lo≤1073741824)→(x.1.num=num.lo∧x.1.den=den.lo)) (HF negative num den):=fun hP=>Sk.cZ _ (HG negative num den hP)
theorem Jk (negative:Bool) (num:EW) (den:EW):(jH negative num den).aZ (fun _=>True):=by
  unfold jH
  exact mO

def vL negative num den:=kk tok mixed Tryz.func204 [bv negative,av num.cells,av den.cells] (fun x=>.eD [av x.1.cells,iv x.2]) true (jH negative num den) (HF negative num den) (u0 (Jk negative num den)) (fun (x:kb × Int)=>(num.hi=0∧den.hi=0∧negative=false∧(1≤num.lo∧num.lo≤1073741824)∧1≤den.lo∧den.lo≤1073741824)→(x.1.num=num.lo∧x.1.den=den.lo)) (EX negative num den)
def lI (num:Int) (den:Int):Sk (kb × Int) :=
 .br (den == 0)
 (.fin (({ num:=0,den:=0 }:kb),1))
 (.r 3 (.dep ((s9 num).c) fun _=>(s9 den).c) fun p5 =>
 .r 4 ((yd p5.1 p5.2).c) fun x3 =>
 .r 5 (.al (.p (x3≠0)) (.al (.p (x3≠0)) ((vL (!((decide (num < 0)) == (decide (den < 0)))) ({ hi:=0,lo:=IntKind.u64.wrap (p5.1.tdiv x3) }:EW) ({ hi:=0,lo:=IntKind.u64.wrap (p5.2.tdiv x3) }:EW)).c))) fun x4 =>
 .fin (x4.1,x4.2))
def Qz num den:=(lI num den).val
theorem HH (num:Int) (den:Int):(lI num den).cC (fun (x:kb × Int)=>(den=0→x.2=1)∧((1≤num∧num≤1073741824)∧1≤den∧den≤1073741824→(1≤x.1.num∧x.1.num≤1073741824)∧1≤x.1.den∧x.1.den≤1073741824)):=by
  refine Sk.aX _ ?_
  unfold lI
  simp only [Sk.cx,Sk.aI,reduceCtorEq,ON,kk,kp,s9,yd,vL,maxLen]
  refine ⟨fun hc h=>?_,fun hc x _ hx y _ hy z _ hz=>⟨fun h=>?_,fun h=>?_⟩⟩
  all_goals simp only [LN] at hc
  · omega
  · omega
  · have e1:=hx.1.2.2 (by omega) (by omega)
    have e2:=hx.2.2.2 (by omega) (by omega)
    have hg:=hy ⟨hx.1.1,hx.2.1⟩
    rw [e1,e2] at hg hz
    have Ia:0 < y:=by
      rw [hg]
      have:=Int.gcd_pos_of_ne_zero_left (a:=num) den (by omega)
      omega
    have q1:=Oy h.1 Ia (by rw [hg]; exact Int.gcd_dvd_left ..)
    have q2:=Oy h.2 Ia (by rw [hg]; exact Int.gcd_dvd_right ..)
    have VV:(!decide (num < 0) == decide (den < 0))=false:=by
      rw [decide_eq_false (by omega),decide_eq_false (by omega)]; rfl
    have:=hz ⟨VV,q1,q2⟩
    omega

theorem Jl (num:Int) (den:Int) (hd:(0≤num∧num≤1073741824)∧0≤den∧den≤1073741824):(lI num den).aZ (fun _=>True):=by
  refine Sk.aU _ ?_
  unfold lI
  simp only [Sk.jb,Sk.aI,reduceCtorEq,ON,kk,kp,s9,yd,vL,maxLen]
  intro hc x _ hx
  refine ⟨⟨hx.1.1,hx.2.1⟩,fun y _ hy=>?_⟩
  simp only [LN] at hc
  have hg:=hy ⟨hx.1.1,hx.2.1⟩
  have e2:=hx.2.2.2 (by omega) (by omega)
  have:=Int.gcd_pos_of_ne_zero_right x.1 (b:=x.2) (by omega)
  omega

def vM num den:=kp tok mixed Tryz.func164 [iv num,iv den] (fun x=>.eD [av x.1.cells,iv x.2]) true (Qz num den) (Jl num den) (HH num den)
def iU (r:ai) (from_:Int) (bP:Int) (day:Int):Sk (kb × Bool) :=
 .r 2 ((pg r.bn from_ bP day).c) fun x1 =>
 .bind false (fun b2=>r.c9→(b2.1=0∧b2.2=0)∨((1≤b2.1∧b2.1≤1073741824)∧1≤b2.2∧b2.2≤1073741824))
 (.br (decide (x1≥0))
 (.r 4 (.al (.p (bA x1 r.bn.length)) (.p (bA x1 r.bn.length))) fun _ =>
 .fin (.inr ((r.bn.getD x1.toNat default).num,(r.bn.getD x1.toNat default).den)))
 (.r 5 ((pg r.bn bP from_ day).c) fun x3 =>
 .br (decide (x3≥0))
 (.r 7 (.al (.p (bA x3 r.bn.length)) (.p (bA x3 r.bn.length))) fun _ =>
 .fin (.inr ((r.bn.getD x3.toNat default).den,(r.bn.getD x3.toNat default).num)))
 (.fin (.inr (0,0)))))
 (fun (b2:Int × Int)=>⟨[(10,iv b2.1),(11,iv b2.2)],[]⟩) fun b2 =>
 .r 8 ((vM b2.1 b2.2).c) fun x4 =>
 .fin (x4.1,x4.2 == 0)
def DW r from_ bP day:=(iU r from_ bP day).val
theorem EY (r:ai) (from_:Int) (bP:Int) (day:Int) (hP:r.c9):(iU r from_ bP day).cC (fun (x:kb × Bool)=>x.2=true→(1≤x.1.num∧x.1.num≤1073741824)∧1≤x.1.den∧x.1.den≤1073741824):=by
  refine Sk.aX _ ?_
  unfold iU
  simp only [Sk.cx,Sk.aI,reduceCtorEq,ON,kk,kp,pg,vM,maxLen]
  intro x _ hx
  refine ⟨⟨fun hc _ hR=>?_,fun hc y _ hy=>⟨fun B6 _ hR=>?_,fun _ _=>.inl trivial⟩⟩,fun b _ hb z _ hz h0=>?_⟩
  · simp only [LN] at hc
    exact .inr (hR x.toNat (by omega))
  · simp only [LN] at B6
    exact .inr ⟨(hR y.toNat (by omega)).2,(hR y.toNat (by omega)).1⟩
  · rcases hb hP with h | h
    · have:=hz.1 h.2
      rw [this] at h0
      exact absurd h0 (by decide)
    · exact hz.2 h

theorem Dk (r:ai) (from_:Int) (bP:Int) (day:Int):(fun (x:kb × Bool)=>(r.c9)→(x.2=true→(1≤x.1.num∧x.1.num≤1073741824)∧1≤x.1.den∧x.1.den≤1073741824)) (DW r from_ bP day):=fun hP=>Sk.cZ _ (EY r from_ bP day hP)
theorem HJ (r:ai) (from_:Int) (bP:Int) (day:Int) (ZW:r.c9):(iU r from_ bP day).aZ (fun _=>True):=by
  refine Sk.aU _ ?_
  unfold iU
  simp only [Sk.jb,Sk.aI,reduceCtorEq,ON,kk,kp,pg,vM,maxLen]
  intro x _ hx
  refine ⟨⟨fun hc=>⟨?_,fun _ hR=>?_⟩,fun hc y _ hy=>⟨fun B6=>⟨?_,fun _ hR=>?_⟩,fun _ _=>.inl trivial⟩⟩,fun b _ hb=>?_⟩
  · simp only [LN] at hc; omega
  · simp only [LN] at hc
    exact .inr (hR x.toNat (by omega))
  · simp only [LN] at B6; omega
  · simp only [LN] at B6
    exact .inr ⟨(hR y.toNat (by omega)).2,(hR y.toNat (by omega)).1⟩
  · rcases hb ZW with h | h <;> omega

def ph r from_ bP day:=kk tok mixed Tryz.func123 [av r.cells,iv from_,iv bP,iv day] (fun x=>.eD [av x.1.cells,bv x.2]) true (iU r from_ bP day) (DW r from_ bP day) (HJ r from_ bP day) (fun (x:kb × Bool)=>(r.c9)→(x.2=true→(1≤x.1.num∧x.1.num≤1073741824)∧1≤x.1.den∧x.1.den≤1073741824)) (Dk r from_ bP day)
theorem LZ {a b:Int} (ha:1≤a∧a≤1073741824) (hb:1≤b∧b≤1073741824):(1≤a * b∧a * b≤1152921504606846976)∧IntKind.u64.wrap (IntKind.u64.wrap a * IntKind.u64.wrap b)=a * b:=by
  have h1:1 * b≤a * b:=Int.mul_le_mul_of_nonneg_right ha.1 (by omega)
  have h2:a * b≤1073741824 * b:=Int.mul_le_mul_of_nonneg_right ha.2 (by omega)
  have h3:1≤a * b∧a * b≤1152921504606846976:=by omega
  rw [dL (n:=a) (by omega) (by omega),dL (n:=b) (by omega) (by omega),dL (by omega) (by omega)]
  exact ⟨h3,rfl⟩
theorem Oz {s D W x y:Int} (hs:0≤s∧s≤1099511627776) (hD:0≤D∧D≤W) (hW:1≤W∧W≤1152921504606846976) (hx:0≤x) (hy:0≤y) (e:x * 18446744073709551616+y=s * D):x < W∧0≤s * D / W∧s * D / W≤s:=by
  have h0:0≤s * D:=Int.mul_nonneg hs.1 hD.1
  have h1:s * D≤s * W:=Int.mul_le_mul_of_nonneg_left hD.2 hs.1
  have h2:s * W≤1099511627776 * W:=Int.mul_le_mul_of_nonneg_right hs.2 (by omega)
  exact ⟨by omega,Int.ediv_nonneg h0 (by omega),Int.ediv_le_of_le_mul (by omega) h1⟩
def iV (sum:Int) (a:kb) (b:kb):Sk (Int) :=
 .br (decide ((IntKind.u64.wrap ((IntKind.u64.wrap (a.num)) * (IntKind.u64.wrap (b.num))))≥(IntKind.u64.wrap ((IntKind.u64.wrap (a.den)) * (IntKind.u64.wrap (b.den))))))
 (.fin 0)
 (.r 4 ((gI (IntKind.u64.wrap (sum)) (IntKind.u64.wrap ((IntKind.u64.wrap ((IntKind.u64.wrap (a.den)) * (IntKind.u64.wrap (b.den)))) - (IntKind.u64.wrap ((IntKind.u64.wrap (a.num)) * (IntKind.u64.wrap (b.num))))))).c) fun x1 =>
 .r 5 ((k8 x1.1 x1.2 (IntKind.u64.wrap ((IntKind.u64.wrap (a.den)) * (IntKind.u64.wrap (b.den))))).c) fun x2 =>
 .fin (aq (x2.1)))
def DX sum a b:=(iV sum a b).val
theorem EZ (sum:Int) (a:kb) (b:kb) (hP:(0≤sum∧sum≤1099511627776)∧((1≤a.num∧a.num≤1073741824)∧1≤a.den∧a.den≤1073741824)∧(1≤b.num∧b.num≤1073741824)∧1≤b.den∧b.den≤1073741824):(iV sum a b).cC (fun (x:Int)=>0≤x∧x≤1099511627776):=by
  refine Sk.aX _ ?_
  unfold iV
  simp only [Sk.cx,Sk.aI,reduceCtorEq,ON,kk,kp,k8,gI,maxLen]
  obtain ⟨hs,ha,hb⟩:=hP
  obtain ⟨hk,ek⟩:=LZ (a:=a.num) (b:=b.num) ha.1 hb.1
  obtain ⟨hw,ew⟩:=LZ (a:=a.den) (b:=b.den) ha.2 hb.2
  rw [ek,ew]
  refine ⟨fun _=>⟨by decide,by decide⟩,fun hc x _ hx y _ hy=>?_⟩
  simp only [LN] at hc
  rw [dL (n:=sum) hs.1 (by omega),dL (n:=a.den * b.den - a.num * b.num) (by omega) (by omega)] at hx
  obtain ⟨h1,h2,h3⟩:=hx ⟨⟨hs.1,by omega⟩,by omega,by omega⟩
  obtain ⟨l1,l2,l3⟩:=Oz hs (D:=a.den * b.den - a.num * b.num) (by omega) hw h1.1 h2.1 h3
  have hy:=(hy ⟨h1.1,l1,by omega,h2.1,h2.2⟩).1
  rw [h3] at hy
  rw [aD (by omega) (by omega)]
  omega

theorem Dl (sum:Int) (a:kb) (b:kb):(fun (x:Int)=>((0≤sum∧sum≤1099511627776)∧((1≤a.num∧a.num≤1073741824)∧1≤a.den∧a.den≤1073741824)∧(1≤b.num∧b.num≤1073741824)∧1≤b.den∧b.den≤1073741824)→(0≤x∧x≤1099511627776)) (DX sum a b):=fun hP=>Sk.cZ _ (EZ sum a b hP)
theorem HK (sum:Int) (a:kb) (b:kb) (hs:0≤sum∧sum≤1099511627776) (ha:(1≤a.num∧a.num≤1073741824)∧1≤a.den∧a.den≤1073741824) (hb:(1≤b.num∧b.num≤1073741824)∧1≤b.den∧b.den≤1073741824):(iV sum a b).aZ (fun _=>True):=by
  refine Sk.aU _ ?_
  unfold iV
  simp only [Sk.jb,Sk.aI,reduceCtorEq,ON,kk,kp,k8,gI,maxLen]
  obtain ⟨hk,ek⟩:=LZ (a:=a.num) (b:=b.num) ha.1 hb.1
  obtain ⟨hw,ew⟩:=LZ (a:=a.den) (b:=b.den) ha.2 hb.2
  rw [ek,ew]
  intro hc x _ hx
  simp only [LN] at hc
  rw [dL (n:=sum) hs.1 (by omega),dL (n:=a.den * b.den - a.num * b.num) (by omega) (by omega)] at hx
  obtain ⟨h1,h2,h3⟩:=hx ⟨⟨hs.1,by omega⟩,by omega,by omega⟩
  obtain ⟨l1,l2,l3⟩:=Oz hs (D:=a.den * b.den - a.num * b.num) (by omega) hw h1.1 h2.1 h3
  exact ⟨h1.1,l1,by omega,h2.1,h2.2⟩

def tM sum a b:=kk tok mixed Tryz.func124 [iv sum,av a.cells,av b.cells] (fun x=>iv x) true (iV sum a b) (DX sum a b) (u3 (HK sum a b)) (fun (x:Int)=>((0≤sum∧sum≤1099511627776)∧((1≤a.num∧a.num≤1073741824)∧1≤a.den∧a.den≤1073741824)∧(1≤b.num∧b.num≤1073741824)∧1≤b.den∧b.den≤1073741824)→(0≤x∧x≤1099511627776)) (Dl sum a b)
def eR (r:ai) (b:og) (dY:Int) (sum:Int) (from_:Int) (bP:Int):Sk (Int) :=
 .r 1 (.al (.p (bA dY r.aQ.length)) (.p (bA ((r.aQ.getD dY.toNat default).bQ) r.aK.length))) fun _ =>
 .br (((r.aK.getD (((r.aQ.getD dY.toNat default).bQ).toNat) default).aE) == b.aE)
 (.fin 0)
 (.r 4 ((ph r b.aE ((r.aK.getD (((r.aQ.getD dY.toNat default).bQ).toNat) default).aE) from_).c) fun x1 =>
 .r 5 ((ph r ((r.aK.getD (((r.aQ.getD dY.toNat default).bQ).toNat) default).aE) b.aE bP).c) fun x2 =>
 .br ((!x1.2)||(!x2.2))
 (.fin 0)
 (.r 8 ((tM sum x1.1 x2.1).c) fun x3 =>
 .fin x3))
def wq r b dY sum from_ bP:=(eR r b dY sum from_ bP).val
theorem zg (r:ai) (b:og) (dY:Int) (sum:Int) (from_:Int) (bP:Int) (hP:(0≤sum∧sum≤1099511627776)∧r.c9):(eR r b dY sum from_ bP).cC (fun (x:Int)=>0≤x∧x≤1099511627776):=by
  unfold eR
  try simp only [ph,tM]
  exact B7

theorem ye (r:ai) (b:og) (dY:Int) (sum:Int) (from_:Int) (bP:Int):(fun (x:Int)=>((0≤sum∧sum≤1099511627776)∧r.c9)→(0≤x∧x≤1099511627776)) (wq r b dY sum from_ bP):=fun hP=>Sk.cZ _ (zg r b dY sum from_ bP hP)
theorem Ax (r:ai) (b:og) (dY:Int) (sum:Int) (from_:Int) (bP:Int) (hw:0≤dY∧dY < (r.aQ.length:Int)) (hs:0≤sum∧sum≤1099511627776) (hfi:r.fW) (ZW:r.c9):(eR r b dY sum from_ bP).aZ (fun _=>True):=by
  refine Sk.aU _ ?_
  unfold eR
  simp only [Sk.jb,Sk.aI,reduceCtorEq,ON,kk,kp,ph,tM,maxLen]
  refine ⟨⟨hw,hfi dY.toNat (by omega)⟩,fun _ _=>⟨ZW,fun x _ hx=>⟨ZW,fun y _ hy hc=>?_⟩⟩⟩
  simp only [LN] at hc
  exact ⟨hs,hx ZW hc.1,hy ZW hc.2⟩

def nM r b dY sum from_ bP:=kk tok mixed Tryz.func71 [av r.cells,av b.cells,iv dY,iv sum,iv from_,iv bP] (fun x=>iv x) true (eR r b dY sum from_ bP) (wq r b dY sum from_ bP) (u4 (Ax r b dY sum from_ bP)) (fun (x:Int)=>((0≤sum∧sum≤1099511627776)∧r.c9)→(0≤x∧x≤1099511627776)) (ye r b dY sum from_ bP)
def iW (r:ai) (forum:Int) (f:ar) (sign:Int) (day:Int):Sk (EN) :=
 .r 1 ((bT f day).c) fun x1 =>
 .r 2 ((tK r forum f sign day).c) fun x2 =>
 .br (((!x2.2)||(decide (sign < 0)))||(decide (sign≥((x1.ah.length:Nat):Int))))
 (.fin ({ sum:=0,lH:=0,BZ:=0,exchange:=0,fX:=0,rest:=0,aE:=0 }:EN))
 (.r 6 ((cy r forum f day).c) fun x3 =>
 .bind false (fun b4=>bX r f→r.c9→(0≤b4.sum∧b4.sum≤1099511627776)∧(0≤b4.lH∧b4.lH≤1099511627776)∧(0≤b4.BZ∧b4.BZ≤1099511627776)∧(0≤b4.exchange∧b4.exchange≤1099511627776))
 (.br ((x3 != (-1))&&(decide (x3≤(ch day 100000))))
 (.bind false (fun _=>True)
 (.br (f.aH.mW == 0)
 (.r 11 (.dep ((gz r forum 16 ({ file:=f,sign:=sign,gZ:=sign,im:=(-1),due:=x3,day:=day }:fj)).c) fun x6=>(nj x6).c) fun p8 =>
 .fin (.inr (ch 1000 (bL 0 p8.2))))
 (.fin (.inr f.aH.mW)))
 (fun (b5:Int)=>⟨[(18,iv b5)],[]⟩) fun b5 =>
 .r 12 ((nK x2.1.sum b5 x3 (ch day 100000)).c) fun x9 =>
 .r 13 (.dep ((gz r forum 17 ({ file:=f,sign:=sign,gZ:=sign,im:=(-1),due:=x3,day:=day }:fj)).c) fun Mk=>(fk Mk).c) fun p13 =>
 .br (p13.2 == 1)
 (.r 14 (.al (.p (bA sign x1.ah.length)) ((nM r f.aH ((x1.ah.getD sign.toNat default).dY) x2.1.sum x3 (ch day 100000)).c)) fun Wz =>
 .fin (.inr ({ sum:=x2.1.sum,lH:=x9,BZ:=0,exchange:=Wz,fX:=0,rest:=0,aE:=f.aH.aE }:EN)))
 (.fin (.inr ({ sum:=x2.1.sum,lH:=x9,BZ:=0,exchange:=0,fX:=0,rest:=0,aE:=f.aH.aE }:EN))))
 (.fin (.inr ({ sum:=x2.1.sum,lH:=0,BZ:=0,exchange:=0,fX:=0,rest:=0,aE:=f.aH.aE }:EN))))
 (fun (b4:EN)=>⟨[],[(14,.box (b4.cells.map .d))]⟩) fun b4 =>
 .bind true (fun B9=>bX r f→0≤B9∧B9≤1099511627776)
 (.loop (default:Sum (EN) (Int)) (fun i15=>i15.1≤x1.au.length∧(bX r f→0≤i15.2∧i15.2≤1099511627776)) (fun i15=>x1.au.length - i15.1) ((0,b4.BZ):Nat × Int)
 (fun (i15:Nat × Int)=>⟨[(116,iv ((i15.1:Nat):Int))],[(14,.box [iv b4.sum,iv b4.lH,iv i15.2,iv b4.exchange,iv b4.fX,iv b4.rest,iv b4.aE])]⟩) fun i15 =>
 .lt 114 0 i15.1 x1.au.length
 (.r 17 (.p (bA ((i15.1:Nat):Int) x1.au.length)) fun _ =>
 .br ((((x1.au.getD i15.1 default).kind) == 4)||(((x1.au.getD i15.1 default).kind) == 5))
 (.r 20 .z fun _ =>
 .wi 116 (aq (((i15.1:Nat):Int)+1)) ((i15.1+1:Nat):Int) <|
 .fin (.inr (i15.1+1,ch 1099511627776 (aq (i15.2+((x1.au.getD i15.1 default).sum))))))
 (.nx 20 116 i15.1 (i15.1+1,i15.2)))
 (.fin (.inl (.inr i15.2))))
 (fun (B9:Int)=>⟨[],[(14,.box [iv b4.sum,iv b4.lH,iv B9,iv b4.exchange,iv b4.fX,iv b4.rest,iv b4.aE])]⟩) fun B9 =>
 .fin ({ b4 with BZ:=B9,rest:=ch 1099511627776 (aq ((aq ((aq (b4.sum+b4.lH))+B9))+b4.exchange)) }))
def mJ r forum f sign day:=(iW r forum f sign day).val
theorem E0 (r:ai) (forum:Int) (f:ar) (sign:Int) (day:Int) (hP:bX r f∧r.c9):(iW r forum f sign day).cC (fun (x:EN)=>0≤x.rest∧x.rest≤1099511627776):=by
  refine Sk.aX _ ?_
  unfold iW
  simp only [Sk.cx,Sk.aI,reduceCtorEq,ON,kk,kp,nM,nK,gz,cy,nj,fk,tK,bT,maxLen]
  obtain ⟨hF,hR⟩:=hP
  have Y6:=hF.UK
  have hSm:=hF.small
  have hw:∀ h1:ar,h1=aB f day→0≤sign→sign < (h1.ah.length:Int)→0≤(h1.ah.getD sign.toNat default).dY∧(h1.ah.getD sign.toNat default).dY < (r.aQ.length:Int):=fun h1 e a b=>by subst e; exact hF.UT day a b
  have ha:∀ h1:ar,h1=aB f day→∀ q:Nat,q < h1.au.length→0≤(h1.au.getD q default).sum∧(h1.au.getD q default).sum≤1099511627776:=fun h1 e q hq=>by subst e; exact (hF.Rx day).2.2.2 q hq
  all_goals (repeat' first | assumption | (apply And.intro) | (intro h))
  all_goals first | trivial | assumption | omega | (try simp only [hF,hR,Y6,hSm,and_self,and_true,true_implies,forall_const,LN] at *) <;> first | omega | assumption | exact (hw _ ‹_=aB f day› (by omega) (by omega)).1 | exact (hw _ ‹_=aB f day› (by omega) (by omega)).2 | (simp (disch:=omega) only [aD] at *; omega) | (simp (disch:=omega) only [aD,ch] at *; split <;> omega) | (have hq:=ha _ ‹_=aB f day› _ (Int.ofNat_lt.1 (by assumption)); simp (disch:=omega) only [aD,ch] at *; first | omega | (split <;> omega))

theorem uO (r:ai) (forum:Int) (f:ar) (sign:Int) (day:Int):(fun (x:EN)=>(bX r f∧r.c9)→(0≤x.rest∧x.rest≤1099511627776)) (mJ r forum f sign day):=fun hP=>Sk.cZ _ (E0 r forum f sign day hP)
theorem HL (r:ai) (forum:Int) (f:ar) (sign:Int) (day:Int) (hF:bX r f) (bm:f.Small) (bM:r.ca) (bh:r.Small) (gh:r.fW) (eS:r.c9):(iW r forum f sign day).aZ (fun _=>True):=by
  refine Sk.aU _ ?_
  unfold iW
  simp only [Sk.jb,Sk.aI,reduceCtorEq,ON,kk,kp,nM,nK,gz,cy,nj,fk,tK,bT,maxLen]
  have Y6:=hF.UK
  have hSm:=hF.small
  have hw:∀ h1:ar,h1=aB f day→0≤sign→sign < (h1.ah.length:Int)→0≤(h1.ah.getD sign.toNat default).dY∧(h1.ah.getD sign.toNat default).dY < (r.aQ.length:Int):=fun h1 e a b=>by subst e; exact hF.UT day a b
  have ha:∀ h1:ar,h1=aB f day→∀ q:Nat,q < h1.au.length→0≤(h1.au.getD q default).sum∧(h1.au.getD q default).sum≤1099511627776:=fun h1 e q hq=>by subst e; exact (hF.Rx day).2.2.2 q hq
  all_goals (repeat' first | assumption | (apply And.intro) | (intro h))
  all_goals first | trivial | assumption | omega | (try simp only [hF,eS,Y6,hSm,and_self,and_true,true_implies,forall_const,LN] at *) <;> first | omega | assumption | exact (hw _ ‹_=aB f day› (by omega) (by omega)).1 | exact (hw _ ‹_=aB f day› (by omega) (by omega)).2 | (simp (disch:=omega) only [aD] at *; omega) | (simp (disch:=omega) only [aD,ch] at *; split <;> omega) | (have hq:=ha _ ‹_=aB f day› _ (Int.ofNat_lt.1 (by assumption)); simp (disch:=omega) only [aD,ch] at *; first | omega | (split <;> omega))

def tN r forum f sign day:=kk tok mixed Tryz.func29 [av r.cells,iv forum,av f.cells,iv sign,iv day] (fun x=>av x.cells) true (iW r forum f sign day) (mJ r forum f sign day) (u6 (HL r forum f sign day)) (fun (x:EN)=>(bX r f∧r.c9)→(0≤x.rest∧x.rest≤1099511627776)) (uO r forum f sign day)
def jI (r:ai) (forum:Int) (f:ar) (day:Int):Sk ((List Claim)) :=
 .r 1 ((C8 r forum f day).c) fun x1 =>
 .br (!x1.2)
 (.fin [])
 (.r 4 ((rX r forum f day).c) fun x2 =>
 .bind true (fun b3=>b3.length≤1000000)
 (.loop (default:Sum ((List Claim)) ((List Claim))) (fun i4=>i4.1≤x1.1.view.lead.length∧i4.2.length≤i4.1 * 10000) (fun i4=>x1.1.view.lead.length - i4.1) ((0,[]):Nat × (List Claim))
 (fun (i4:Nat × (List Claim))=>⟨[(42,iv ((i4.1:Nat):Int))],[(100366,bg 50 9 Claim.cells i4.2),(12,.box [ow 100366 i4.2])]⟩) fun i4 =>
 .lt 40 0 i4.1 x1.1.view.lead.length
 (.bind true (fun b5=>b5.length≤i4.2.length+10000)
 (.r 8 (.p (bA ((i4.1:Nat):Int) x1.1.view.lead.length)) fun _ =>
 .r 9 ((oG x1.1.view (x1.1.view.lead.getD i4.1 default)).c) fun x6 =>
 .r 10 ((sb x1.1 x6).c) fun _ =>
 .bind true (fun b8=>b8.length≤i4.2.length+10000)
 (.rf (jr x1.1 x6) (fun ki9 i9=>i9.length≤i4.2.length+ki9 * 100) (fun (_:Unit)=>False) 2 (i4.2:(List Claim))
 (fun (i9:(List Claim))=>[(100534,bg 50 9 Claim.cells i9),(12,.box [ow 100534 i9])]) (fun (_:Unit)=>[])
 (fun i9 QA =>
 .bind true (fun ZX=>ZX.length≤i9.length+100)
 (.r 12 ((nI x1.1.view (x1.1.view.lead.getD i4.1 default) QA.sign x6).c) fun GJ =>
 .bind true (fun B9=>B9.2.length≤i9.length+GJ.length)
 (.loop (default:Sum (Sum (Sum (Unit) ((List Claim))) ((List Claim))) (Int × (List Claim))) (fun i15=>i15.1≤GJ.length∧i15.2.length≤i9.length+i15.1) (fun i15=>GJ.length - i15.1) ((0,i9):Nat × (List Claim))
 (fun (i15:Nat × (List Claim))=>⟨[(62,iv ((i15.1:Nat):Int))],[(100548,bg 50 9 Claim.cells i15.2),(12,.box [ow 100548 i15.2])]⟩) fun i15 =>
 .lt 60 0 i15.1 GJ.length
 (.r 14 (.p (bA ((i15.1:Nat):Int) GJ.length)) fun _ =>
 .r 15 (.p (bA (GJ.getD i15.1 default) x1.1.view.now.ah.length)) fun _ =>
 .r 16 ((nJ x1.1 QA (GJ.getD i15.1 default) x6 x2).c) fun SB =>
 .br ((SB.1 == 0)||(((x1.1.view.now.ah.getD ((GJ.getD i15.1 default).toNat) default).dY) == QA.jq))
 (.nx 20 62 i15.1 (i15.1+1,i15.2))
 (.r 18 ((tN r forum f (GJ.getD i15.1 default) day).c) fun Vz =>
 .r 19 (.al (.o [.fc (fQ Claim.E [({ aR:=(x1.1.view.now.ah.getD ((GJ.getD i15.1 default).toNat) default).dY,af:=QA.jq,part:=x1.1.view.lead.getD i4.1 default,sign:=GJ.getD i15.1 default,cj:=QA.sign,mN:=SB.2,sum:=Vz.rest,aE:=f.aH.aE,state:=SB.1 }:Claim)])]) (.al (.o [.fc (mV Claim.E i15.2 [({ aR:=(x1.1.view.now.ah.getD ((GJ.getD i15.1 default).toNat) default).dY,af:=QA.jq,part:=x1.1.view.lead.getD i4.1 default,sign:=GJ.getD i15.1 default,cj:=QA.sign,mN:=SB.2,sum:=Vz.rest,aE:=f.aH.aE,state:=SB.1 }:Claim)])]) (.al (.t (Claim.E.pB [({ aR:=(x1.1.view.now.ah.getD ((GJ.getD i15.1 default).toNat) default).dY,af:=QA.jq,part:=x1.1.view.lead.getD i4.1 default,sign:=GJ.getD i15.1 default,cj:=QA.sign,mN:=SB.2,sum:=Vz.rest,aE:=f.aH.aE,state:=SB.1 }:Claim)])) (.p (yw i15.2.length [({ aR:=(x1.1.view.now.ah.getD ((GJ.getD i15.1 default).toNat) default).dY,af:=QA.jq,part:=x1.1.view.lead.getD i4.1 default,sign:=GJ.getD i15.1 default,cj:=QA.sign,mN:=SB.2,sum:=Vz.rest,aE:=f.aH.aE,state:=SB.1 }:Claim)].length 72))))) fun _ =>
 .r 20 .z fun _ =>
 .wi 62 (aq (((i15.1:Nat):Int)+1)) ((i15.1+1:Nat):Int) <|
 .fin (.inr (i15.1+1,i15.2++[({ aR:=(x1.1.view.now.ah.getD ((GJ.getD i15.1 default).toNat) default).dY,af:=QA.jq,part:=x1.1.view.lead.getD i4.1 default,sign:=GJ.getD i15.1 default,cj:=QA.sign,mN:=SB.2,sum:=Vz.rest,aE:=f.aH.aE,state:=SB.1 }:Claim)]))))
 (.fin (.inl (.inr (((i15.1:Nat):Int),i15.2)))))
 (fun (B9:Int × (List Claim))=>⟨[(62,iv B9.1)],[(100547,bg 50 9 Claim.cells B9.2),(12,.box [ow 100547 B9.2])]⟩) fun B9 =>
 .fin (.inr B9.2))
 (fun (ZX:(List Claim))=>⟨[],[(100545,bg 50 9 Claim.cells ZX),(12,.box [ow 100545 ZX])]⟩) fun ZX =>
 .fin (.inr ZX)) fun r=>match r with
 | .inl _=>(.dead default)
 | .inr j18=>(.fin (.inr j18)))
 (fun (b8:(List Claim))=>⟨[],[(100526,bg 50 9 Claim.cells b8),(12,.box [ow 100526 b8])]⟩) fun b8 =>
 .fin (.inr b8))
 (fun (b5:(List Claim))=>⟨[],[(100503,bg 50 9 Claim.cells b5),(12,.box [ow 100503 b5])]⟩) fun b5 =>
 .nx 21 42 i4.1 (i4.1+1,b5))
 (.fin (.inl (.inr i4.2))))
 (fun (b3:(List Claim))=>⟨[],[(100274,bg 50 9 Claim.cells b3),(12,.box [ow 100274 b3])]⟩) fun b3 =>
 .fin b3)
def dt r forum f day:=(jI r forum f day).val
theorem zB (r:ai) (forum:Int) (f:ar) (day:Int) (hF:bX r f) (bm:f.Small) (bM:r.ca) (bh:r.Small) (gh:r.fW) (eS:r.c9):(jI r forum f day).aZ (fun _=>True):=by
  refine Sk.aU _ ?_
  unfold jI
  simp only [Sk.jb,Sk.aI,reduceCtorEq,ON,kk,kp,Sk.cx,tN,rX,sb,nJ,C8,nI,oG,jr,Sum.forall,yW,forall_eq,maxLen]
  refine ⟨⟨bm,bM,bh⟩,?_⟩
  generalize aV r forum f day=x
  intro hx hc
  have he:=(hx (by simpa using hc)).1
  have ho:=zy f day
  dsimp only at ho
  have pn:x.1.view.all=f:=by rw [he]; exact ho.1
  have OA:x.1.view.now=aB f day:=by rw [he]; exact ho.2.1
  have NW:x.1.view.day=day:=by rw [he]; exact ho.2.2.1
  have hxr:x.1.r=r:=by rw [he]
  have adf:=hF.2.1.1
  have abf:x.1.view.lead.length≠0∧x.1.view.lead.length≤41:=by rw [he]; exact ⟨ho.2.2.2.1,by have:=ho.2.2.2.2; show (bU f day).lead.length≤41; omega⟩
  have hsg:=nd f day
  have abg:x.1.view.ma:=by unfold View.ma; rw [OA]; exact hF.WC day
  have uY:∀ part,(az x.1.view part).length≤40∧∀ y,y∈az x.1.view part→0≤y∧y < ((aB f day).ah.length:Int):=fun part=>by
    have h:=lr x.1.view part
    rw [pn,NW] at h
    exact ⟨Nat.le_trans h.1 adf,fun y hy=>⟨(h.2 y hy).1,hF.US (h.2 y hy).1 (h.2 y hy).2.1 (h.2 y hy).2.2⟩⟩
  have hlg:∀ part i,i < (az x.1.view part).length→0≤(az x.1.view part).getD i default∧(az x.1.view part).getD i default < ((aB f day).ah.length:Int):=fun part i hi=>(uY part).2 _ (ru hi _)
  have KE:∀ part,Qw x.1 (az x.1.view part):=fun part=>by
    refine ⟨by have:=(uY part).1; omega,fun i hi=>by rw [OA]; exact hlg part i hi,fun i hi=>?_⟩
    have hs:x.1.view.now.Small:=by rw [OA]; exact xA bm day
    have hb:x.1.r.ca:=by rw [hxr]; exact bM
    have hr:x.1.r.Small:=by rw [hxr]; exact bh
    exact ⟨hs,hb,hr⟩
  have V7:∀ part k y,(bo x.1 (az x.1.view part))[k]? = some y→k≤40:=fun part k y h=>by
    have h1:=(List.getElem?_eq_some_iff.1 h).1
    have h2:=Ap x.1 (az x.1.view part)
    have h3:=(uY part).1
    omega
  have VU:∀ part b l,(bE x.1.view part b l).length≤40∧∀ i,i < (bE x.1.view part b l).length→0≤(bE x.1.view part b l).getD i default∧(bE x.1.view part b l).getD i default < ((aB f day).ah.length:Int):=fun part b l=>by
    have h:=pP x.1.view part b l
    rw [OA] at h
    exact ⟨Nat.le_trans h.1 (by omega),fun i hi=>h.2 _ (ru hi _)⟩
  refine ⟨⟨bm,bM,bh⟩,fun hE=>⟨⟨Nat.zero_le _,by simp⟩,fun i hi hm=>⟨fun di=>⟨⟨by simp only [LN] at di; omega,fun _=>⟨by rw [pn]; exact bm,fun _ _=>⟨⟨KE _,by omega,fun k s y hs hy=>?_,?_⟩,?_⟩⟩⟩,?_⟩,?_⟩⟩⟩
  · have hk:=V7 _ _ _ hy
    obtain ⟨hn,hg⟩:=VU (x.1.view.lead.getD i.1 default) y.sign (az x.1.view (x.1.view.lead.getD i.1 default))
    have uV:∀ (l:List Claim) (c:Claim),(l++[c]).length=l.length+1:=fun l c=>by simp
    have adZ:i.2.length≤410000:=by simp only [LN] at di; omega
    refine ⟨⟨fun _=>⟨⟨⟨Nat.zero_le _,Nat.le_refl _⟩,fun j hj=>⟨fun hc _ _=>⟨fun _ _=>?_,fun _ _ _ _=>?_⟩,fun hc=>?_⟩⟩,fun b hb=>?_⟩,fun b _ hb=>?_⟩,⟨⟨abf.1,by rw [OA]; omega⟩,fun _=>?_⟩,?_⟩
    · simp only [LN] at hc; exact ⟨⟨by omega,by omega⟩,by omega⟩
    · simp only [LN] at hc; rw [uV]; exact ⟨⟨by omega,by omega⟩,by omega⟩
    · simp only [LN] at hc; omega
    · omega
    · omega
    · have e1:x.1.view.now=aB x.1.view.all x.1.view.day:=by rw [OA,pn,NW]
      have e2:bX x.1.r x.1.view.all:=by rw [hxr,pn]; exact hF
      have e3:x.1.view.all.Small:=by rw [pn]; exact bm
      have e4:x.1.r.ca:=by rw [hxr]; exact bM
      have e5:x.1.r.Small:=by rw [hxr]; exact bh
      have e6:(cS r forum f day).length=x.1.view.now.ah.length:=by rw [OA]; exact hE
      have h1:∀ c:Claim,[c].length=1:=fun _=>rfl
      refine ⟨⟨⟨Nat.zero_le _,Nat.le_refl _⟩,fun j hj hm2=>⟨fun hc=>?_,fun hc=>?_⟩⟩,fun b hb=>by omega⟩
      · simp only [LN] at hc
        have hgj:=hg j.1 (by omega)
        rw [← OA] at hgj
        refine ⟨⟨by omega,by omega⟩,fun _=>⟨hgj,fun _=>⟨⟨e6,hgj,e1,e2,abg,e3,e4,e5⟩,fun _ _=>⟨(aD (by omega) (by omega)).trans (by omega),⟨by omega,by omega⟩,by omega⟩,fun _=>⟨⟨hF,bm,bM,bh,gh,eS⟩,fun _=>⟨?_,fun _ _=>⟨(aD (by omega) (by omega)).trans (by omega),⟨by omega,?_⟩,by omega⟩⟩⟩⟩⟩⟩
        · rw [h1]; omega
        · rw [uV]; omega
      · simp only [LN] at hc; omega
    · exact fun b _ hb=>by omega
  · intro b hb
    have h2:=Ap x.1 (az x.1.view (x.1.view.lead.getD i.1 default))
    have h3:=(uY (x.1.view.lead.getD i.1 default)).1
    omega
  · exact fun b _ hb=>hb
  · intro b _ hb _
    simp only [LN] at di
    exact ⟨(aD (by omega) (by omega)).trans (by omega),⟨by omega,by omega⟩,by omega⟩
  · intro hc
    simp only [LN] at hc
    omega

def vN r forum f day:=kk tok mixed Tryz.func10 [av r.cells,iv forum,av f.cells,iv day] (fun x=>lv Claim.cells x) false (jI r forum f day) (dt r forum f day) (u6 (zB r forum f day))
theorem HM (r:ai) (forum:Int) (f:ar) (day:Int) (hF:bX r f) (bm:f.Small) (bM:r.ca) (bh:r.Small) (gh:r.fW) (eS:r.c9):fA Tryz.prog 10 [av r.cells,iv forum,av f.cells,iv day] [] (ow 777777 (dt r forum f day)) [(777777,bg 50 9 Claim.cells (dt r forum f day))] :=
  fA.sk tok mixed (fun x=>ow 777777 x) (fun x=>[(777777,bg 50 9 Claim.cells x)]) Tryz.func10 rfl (by kernel_rfl) 3000 (jI r forum f day) (by kernel_rfl) (zB r forum f day hF bm bM bh gh eS)
def tP (κ:Nat) (r:ai) (forum:Int) (f:ar) (day:Int):gW ((List Claim)):=⟨Tryz.prog,10,[av r.cells,iv forum,av f.cells,iv day],fun x=>ow κ x,fun x=>[(κ,bg 50 9 Claim.cells x)],dt r forum f day,(bX r f)∧(f.Small)∧(r.ca)∧(r.Small)∧(r.fW)∧(r.c9),fun h=>fA.Uy κ (HM r forum f day h.1 h.2.1 h.2.2.1 h.2.2.2.1 h.2.2.2.2.1 h.2.2.2.2.2),fun _=>True,trivial⟩
def pj (s:Sign) (v:bC):Sk (Bool) :=
 .fin (s.dY == v.bP)
def fy s v:=(pj s v).val
theorem pk (s:Sign) (v:bC):fy s v=(s.dY == v.bP):=rfl
theorem Jm (s:Sign) (v:bC):(pj s v).aZ (fun _=>True):=by
  unfold pj
  exact mO

def vO s v:=kk tok mixed Tryz.func49 [av s.cells,.ref v.cells] (fun x=>bv x) true (pj s v) (fy s v) (u0 (Jm s v))
def dW (s:List Sign) (v:bC):Sk (Int) :=
 .bind true (fun b1=>∀ q,q < s.length→fy (s.getD q default) v=false)
 (.loop (default:Sum (Int) (Unit)) (fun i2=>∀ q,q < i2→fy (s.getD q default) v=false) (fun i2=>s.length - i2) (0:Nat)
 (fun (i2:Nat)=>⟨[(8,iv ((i2:Nat):Int))],[]⟩) fun i2 =>
 .lt 0 0 i2 s.length
 (.r 4 (.al (.p (bA ((i2:Nat):Int) s.length)) ((vO (s.getD i2 default) v).c)) fun x3 =>
 .br x3
 (.fin (.inl (.inl ((i2:Nat):Int))))
 (.nx 6 8 i2 (i2+1)))
 (.fin (.inl (.inr ()))))
 (fun (_:Unit)=>⟨[],[]⟩) fun _ =>
 .fin (-1)
def zh s v:=(dW s v).val
theorem uP (s:List Sign) (v:bC):(dW s v).cC (fun (x:Int)=>(x = -1∧∀ q,q < s.length→fy (s.getD q default) v=false)∨(0≤x∧x < s.length∧fy (s.getD x.toNat default) v=true∧∀ q,(q:Nat) < x.toNat→fy (s.getD q default) v=false)):=by
  unfold dW
  try simp only [vO,pk]
  exact O3

theorem vP (s:List Sign) (v:bC):(dW s v).aZ (fun _=>True):=by
  unfold dW
  try simp only [vO,pk]
  exact wx

def jN s v:=kp tok mixed Tryz.func86 [lv Sign.cells s,.fn 49 [.ref v.cells]] (fun x=>iv x) true (zh s v) (u0 (vP s v)) (uP s v)
def cX (s:List Sign) (v:bC):Sk (Bool) :=
 .r 1 ((jN s v).c) fun x1 =>
 .fin (decide (x1≥0))
def vQ s v:=(cX s v).val
theorem si (s:List Sign) (v:bC):(cX s v).cC (fun (x:Bool)=>(x=true↔∃ q,q < s.length∧fy (s.getD q default) v=true)):=by
  unfold cX
  try simp only [jN]
  exact B7

theorem sy (s:List Sign) (v:bC):(cX s v).aZ (fun _=>True):=by
  unfold cX
  try simp only [jN]
  exact mO

def ig s v:=kp tok mixed Tryz.func48 [lv Sign.cells s,.fn 49 [.ref v.cells]] (fun x=>bv x) true (vQ s v) (u0 (sy s v)) (si s v)
theorem OB {β Y γ:Type} (g:Y→List β) {f:List β→Y→γ ⊕ List β}:∀ (l:List Y) (s:List β),(∀ s y,y∈l→f s y=.inr (s++g y))→mS f l s=.inr (s++l.flatMap g)
  | [],s,_=>by simp [mS]
  | y :: r,s,h=>by
    simp only [mS,h s y (by simp)]
    rw [OB g r _ (fun s z hz=>h s z (by simp [hz]))]
    simp
theorem OC {α β ι δ:Type} [Inhabited α] (l:List α) (g:α→List β) (pack:List β→Nat→ι) {f:ι→δ ⊕ ι} {d:δ} (e:List β→δ)
    (hs:∀ s i,i < l.length→f (pack s i)=.inr (pack (s++g (l.getD i default)) (i+1))) (he:∀ s,f (pack s l.length)=.inl (e s)) {n:Nat} (hn:l.length < n) (s:List β):iter f d n (pack s 0)=e (s++l.flatMap g):=by
  rw [l9 (d:=d) l pack (fun x s=>.inr (s++g x)) e hs he hn s,qS (fun x s=>s++g x) e]
  congr 1
  clear hs he hn
  induction l generalizing s with
  | nil=>simp
  | cons x r ih=>rw [List.foldl_cons,ih]; simp
/-- a ja of an owner by a signature,if there is one -/
def vR (r:ai) (forum:Int) (f:ar) (day:Int) (c:fD) (Mm:List cI) (aj:List Int) (part:Int) (o:mI) (sign:Int):List Claim :=
  bif (bI c o sign aj Mm).1 == 0||(c.view.now.ah.getD sign.toNat default).dY == o.jq then [] else
  [{ aR:=(c.view.now.ah.getD sign.toNat default).dY,af:=o.jq,part:=part,sign:=sign,cj:=o.sign,mN:=(bI c o sign aj Mm).2,sum:=(mJ r forum f sign day).rest,aE:=f.aH.aE,state:=(bI c o sign aj Mm).1 }]
def HN (r:ai) (forum:Int) (f:ar) (day:Int) (c:fD) (Mm:List cI):List Claim :=
  c.view.lead.flatMap fun part=>(bo c (az c.view part)).flatMap fun o=>(bE c.view part o.sign (az c.view part)).flatMap fun sign=>vR r forum f day c Mm (az c.view part) part o sign
theorem Dm (r:ai) (forum:Int) (f:ar) (day:Int):dt r forum f day=bif !(aV r forum f day).2 then [] else HN r forum f day (aV r forum f day).1 (cS r forum f day):=by
  unfold dt jI
  dsimp +instances only [Sk.pC,Sk.rq,Sk.vj,Sk.oe,Sk.ue,Sk.xh,Sk.jR,Sk.UB,gV.Kb,kk,kp,C8,rX,oG,nI,nJ,tN,jr,aY.zU]
  cases (aV r forum f day).2 with
  | false=>rfl
  | true =>
    simp only [Bool.not_true,cond_false]
    refine Eq.trans (congrArg (fun q=>ki q fun b=>b) (OC (aV r forum f day).1.view.lead (fun part=>(bo (aV r forum f day).1 (az (aV r forum f day).1.view part)).flatMap fun o=>(bE (aV r forum f day).1.view part o.sign (az (aV r forum f day).1.view part)).flatMap fun sign=>vR r forum f day (aV r forum f day).1 (cS r forum f day) (az (aV r forum f day).1.view part) part o sign) (fun s i=>(i,s)) (fun s=>Sum.inr s) (fun s i hi=>?_) (fun s=>?_) (by simp) [])) ?_
    · dsimp only
      rw [decide_eq_true (by omega),cond_true]
      rw [OB (fun o=>(bE (aV r forum f day).1.view ((aV r forum f day).1.view.lead.getD i default) o.sign (az (aV r forum f day).1.view ((aV r forum f day).1.view.lead.getD i default))).flatMap fun sign=>vR r forum f day (aV r forum f day).1 (cS r forum f day) (az (aV r forum f day).1.view ((aV r forum f day).1.view.lead.getD i default)) ((aV r forum f day).1.view.lead.getD i default) o sign) _ s (fun s y _=>?_)]
      · rfl
      · refine Eq.trans (congrArg (fun q=>ki (ki q _) _) (OC (bE (aV r forum f day).1.view ((aV r forum f day).1.view.lead.getD i default) y.sign (az (aV r forum f day).1.view ((aV r forum f day).1.view.lead.getD i default))) (fun sign=>vR r forum f day (aV r forum f day).1 (cS r forum f day) (az (aV r forum f day).1.view ((aV r forum f day).1.view.lead.getD i default)) ((aV r forum f day).1.view.lead.getD i default) y sign) (fun s i=>(i,s)) (fun s=>Sum.inr (((bE (aV r forum f day).1.view ((aV r forum f day).1.view.lead.getD i default) y.sign (az (aV r forum f day).1.view ((aV r forum f day).1.view.lead.getD i default))).length:Int),s)) (fun s k hk=>?_) (fun s=>?_) (by simp) s)) ?_
        · dsimp only
          rw [decide_eq_true (by omega),cond_true]
          unfold vR
          cases (bI (aV r forum f day).1 y ((bE (aV r forum f day).1.view ((aV r forum f day).1.view.lead.getD i default) y.sign (az (aV r forum f day).1.view ((aV r forum f day).1.view.lead.getD i default))).getD k default) (az (aV r forum f day).1.view ((aV r forum f day).1.view.lead.getD i default)) (cS r forum f day)).1 == 0||((aV r forum f day).1.view.now.ah.getD ((bE (aV r forum f day).1.view ((aV r forum f day).1.view.lead.getD i default) y.sign (az (aV r forum f day).1.view ((aV r forum f day).1.view.lead.getD i default))).getD k default).toNat default).dY == y.jq with
          | true=>simp only [cond_true,List.append_nil]
          | false=>simp only [cond_false]
        · dsimp only
          rw [decide_eq_false (by omega),cond_false]
        · rfl
    · dsimp only
      rw [decide_eq_false (by omega),cond_false]
    · rw [List.nil_append]
      rfl
theorem ta {α β:Type} {g:α→List β} {m:Nat}:∀ (l:List α),(∀ x,x∈l→(g x).length≤m)→(l.flatMap g).length≤l.length * m
  | [],_=>by simp
  | x :: r,h=>by
    have h1:=ta r (fun y hy=>h y (by simp [hy]))
    have h2:=h x (by simp)
    rw [List.flatMap_cons,List.length_append,List.length_cons,Nat.succ_mul]
    omega
theorem Ay {r:ai} {forum:Int} {f:ar} {day:Int} (hF:bX r f):(dt r forum f day).length≤67240:=by
  rw [Dm]
  cases ht:(aV r forum f day).2 with
  | false=>simp
  | true =>
    rw [Bool.not_true,cond_false]
    have he:=(vB r forum f day ht).1
    have hv:(aV r forum f day).1.view=bU f day:=by rw [he]
    have ho:=zy f day
    have h40:=hF.2.1.1
    have hk:∀ part,(az (bU f day) part).length≤40:=fun part=>by
      have h:=(lr (bU f day) part).1
      rw [ho.1] at h
      omega
    unfold HN
    rw [hv]
    refine Nat.le_trans (ta (m:=1640) _ fun part _=>Nat.le_trans (ta (m:=40) _ fun o _=>Nat.le_trans (ta (m:=1) _ fun s _=>?_) ?_) ?_) ?_
    · unfold vR
      cases (bI (aV r forum f day).1 o s (az (bU f day) part) (cS r forum f day)).1 == 0||((aV r forum f day).1.view.now.ah.getD s.toNat default).dY == o.jq <;> simp
    · have h:=(pP (bU f day) part o.sign (az (bU f day) part)).1
      have h2:=nd f day
      rw [ho.2.1] at h
      omega
    · have h:=Ap (aV r forum f day).1 (az (bU f day) part)
      have h2:=hk part
      omega
    · have h:=ho.2.2.2.2
      omega
/-- how many aj lie from one signature to Q1 -/
def L0 (aj:List Int) (lo hi:Int):Nat:=(aj.filter fun l=>decide (l≤hi)&&decide (l≥lo)).length
def L1 (aj:List Int) (hi:Int):Nat:=(aj.filter fun l=>decide (l≤hi)).length
theorem SZ (aj:List Int) (lo hi:Int) {i:Nat} (h:i < aj.length):L0 (aj.take (i+1)) lo hi=L0 (aj.take i) lo hi+(bif decide (aj.getD i default≤hi)&&decide (aj.getD i default≥lo) then 1 else 0):=by
  unfold L0
  rw [List.take_succ_eq_append_getElem h,List.filter_append,List.length_append,show aj.getD i default=aj[i] by simp [List.getD,h]]
  congr 1
  cases hc:decide (aj[i]≤hi)&&decide (aj[i]≥lo) with
  | true=>rw [List.filter_cons_of_pos (by simpa using hc)]; rfl
  | false=>rw [List.filter_cons_of_neg (by simpa using hc)]; rfl
theorem S4 (aj:List Int) (hi:Int) {i:Nat} (h:i < aj.length):L1 (aj.take (i+1)) hi=L1 (aj.take i) hi+(bif decide (aj.getD i default≤hi) then 1 else 0):=by
  unfold L1
  rw [List.take_succ_eq_append_getElem h,List.filter_append,List.length_append,show aj.getD i default=aj[i] by simp [List.getD,h]]
  congr 1
  cases hc:decide (aj[i]≤hi) with
  | true=>rw [List.filter_cons_of_pos (by simpa using hc)]; rfl
  | false=>rw [List.filter_cons_of_neg (by simpa using hc)]; rfl
theorem WU (aj:List Int) (lo hi:Int):L0 aj lo hi≤aj.length:=List.length_filter_le ..
theorem WV (aj:List Int) (hi:Int):L1 aj hi≤aj.length:=List.length_filter_le ..
def uQ (c:fD):Bool:=(c.due != (-1))&&decide (c.view.day≥c.due)
theorem Vj (c:fD) (o:mI) (sign:Int) (aj:List Int) (Mm:List cI) (hl:aj.length≤1000000):bI c o sign aj Mm =
    bif (c.view.now.ah.getD (bp c.view sign).toNat default).kind == 1 then (bif !(uQ c) then (0,0) else (pO o.state (Mm.getD sign.toNat default).binds,0)) else
    bif ((!(uQ c))&&(!(dS c.view.now.au)))||(!((Mm.getD (bp c.view sign).toNat default).nC)) then (0,0) else
    (pO (pO o.state (Mm.getD sign.toNat default).binds) (yb c.r c.forum c.view.all (bp c.view sign) c.view.day).all,
      bif !(bW aj (bp c.view sign)) then (1+(L1 aj o.sign:Int)) else (L0 aj (bp c.view sign) o.sign:Int)):=by
  unfold bI gb
  dsimp +instances only [Sk.pC,Sk.rq,Sk.vj,Sk.oe,Sk.ue,Sk.xh,Sk.jR,gV.Kb,kk,kp,aY.zU,aY.YF,aY.aaS,qa,oH,ic,aF,oI]
  have abh:∀ d:(Int × Int) ⊕ (Int × Int),iter (fun i5:Int × Int × Nat=>bif decide (((i5.2.2:Nat):Int) < ((aj.length:Nat):Int)) then
      (ki (bif decide ((aj.getD i5.2.2 default)≤o.sign) then (Sum.inr (aq (i5.2.1+1)):(((Int × Int) ⊕ (Int × Int)) ⊕ (Int × Int × Nat)) ⊕ Int) else Sum.inr i5.2.1) fun b6=>bif (decide ((aj.getD i5.2.2 default)≤o.sign))&&(decide ((aj.getD i5.2.2 default)≥bp c.view sign)) then Sum.inr (aq (i5.1+1),b6,i5.2.2+1) else Sum.inr (i5.1,b6,i5.2.2+1))
      else Sum.inl (Sum.inr (i5.1,i5.2.1))) d (aj.length - 0+1) (0,1,0)=Sum.inr ((L0 aj (bp c.view sign) o.sign:Int),1+(L1 aj o.sign:Int)):=by
    intro d
    refine (Fl aj.length (fun n=>((L0 (aj.take n) (bp c.view sign) o.sign:Int),1+(L1 (aj.take n) o.sign:Int))) (fun s i=>(s.1,s.2,i)) (fun s=>Sum.inr s) (fun i hi=>?_) ?_ (m:=aj.length - 0+1) (by omega)).trans ?_
    · dsimp only
      rw [decide_eq_true (by omega),cond_true,SZ aj _ _ hi,S4 aj _ hi]
      have h1:=WU (aj.take i) (bp c.view sign) o.sign
      have h2:=WV (aj.take i) o.sign
      have h3:(aj.take i).length≤aj.length:=by rw [List.length_take]; exact Nat.min_le_right _ _
      rw [aD (n:=(L0 (aj.take i) (bp c.view sign) o.sign:Int)+1) (by omega) (by omega),aD (n:=1+(L1 (aj.take i) o.sign:Int)+1) (by omega) (by omega)]
      cases decide (aj.getD i default≤o.sign) with
      | false=>simp [ki]
      | true =>
        cases decide (aj.getD i default≥bp c.view sign) with
        | false=>simp [ki]; omega
        | true=>simp [ki]; omega
    · dsimp only
      rw [decide_eq_false (by omega),cond_false]
    · rw [List.take_length]
  cases (c.view.now.ah.getD (bp c.view sign).toNat default).kind == 1 with
  | true=>rfl
  | false =>
    simp only [cond_false]
    show (bif ((!(uQ c))&&(!(dS c.view.now.au)))||(!((Mm.getD (bp c.view sign).toNat default).nC)) then (0,0) else _)=_
    cases ((!(uQ c))&&(!(dS c.view.now.au)))||(!((Mm.getD (bp c.view sign).toNat default).nC)) with
    | true=>rfl
    | false =>
      simp only [cond_false]
      refine (congrArg (fun q=>ki q _) (abh _)).trans ?_
      show ki (bif !(bW aj (bp c.view sign)) then Sum.inr (1+(L1 aj o.sign:Int)) else Sum.inr (L0 aj (bp c.view sign) o.sign:Int)) _=_
      cases bW aj (bp c.view sign) <;> rfl
theorem OD (a b:Int):pO a b=0∨pO a b=1∨pO a b=2:=by
  have e:pO a b=bif (a == 0)||(b == 0) then 0 else bif (a == 2)||(b == 2) then 2 else 1:=by kernel_rfl
  rw [e]
  cases (a == 0)||(b == 0) <;> cases (a == 2)||(b == 2) <;> simp
theorem S5 (c:fD) (o:mI) (sign:Int) (aj:List Int) (Mm:List cI) (hl:aj.length≤1000000):(bI c o sign aj Mm).1=0∨(bI c o sign aj Mm).1=1∨(bI c o sign aj Mm).1=2:=by
  rw [Vj c o sign aj Mm hl]
  cases (c.view.now.ah.getD (bp c.view sign).toNat default).kind == 1 with
  | true =>
    cases uQ c with
    | false=>exact .inl rfl
    | true=>exact OD _ _
  | false =>
    rw [cond_false]
    cases ((!(uQ c))&&(!(dS c.view.now.au)))||(!((Mm.getD (bp c.view sign).toNat default).nC)) with
    | true=>exact .inl rfl
    | false=>exact OD _ _
theorem Y7 {r:ai} {forum:Int} {f:ar} {day:Int} (h:(aV r forum f day).2=true):(aV r forum f day).1=⟨bU f day,r,forum,nB r forum f day⟩:=(vB r forum f day h).1
theorem OE (f:ar) (day:Int):(bU f day).all=f:=by rw [LW]
theorem B2 (f:ar) (day:Int):(bU f day).now=aB f day:=by rw [LW]
theorem Vk (f:ar) (day:Int):(bU f day).day=day:=by rw [LW]
/-- where a ja comes from -/
structure adg (r:ai) (forum:Int) (f:ar) (day:Int) (c:Claim) (part:Int) (o:mI) (sign:Int):Prop where
  lead:part∈(bU f day).lead
  own:o∈bo (aV r forum f day).1 (az (bU f day) part)
  li:sign∈bE (bU f day) part o.sign (az (bU f day) part)
  st:(bI (aV r forum f day).1 o sign (az (bU f day) part) (cS r forum f day)).1≠0
  ne:((aB f day).ah.getD sign.toNat default).dY≠o.jq
  eq:c = { aR:=((aB f day).ah.getD sign.toNat default).dY,af:=o.jq,part:=part,sign:=sign,cj:=o.sign,mN:=(bI (aV r forum f day).1 o sign (az (bU f day) part) (cS r forum f day)).2,sum:=(mJ r forum f sign day).rest,aE:=f.aH.aE,state:=(bI (aV r forum f day).1 o sign (az (bU f day) part) (cS r forum f day)).1 }
theorem DY {r:ai} {forum:Int} {f:ar} {day:Int} {c:Claim} (h:c∈dt r forum f day):((aV r forum f day).1=⟨bU f day,r,forum,nB r forum f day⟩)∧∃ part o sign,adg r forum f day c part o sign:=by
  rw [Dm] at h
  cases ht:(aV r forum f day).2 with
  | false=>rw [ht] at h; cases h
  | true =>
    rw [ht,Bool.not_true,cond_false] at h
    have he:=Y7 ht
    refine ⟨he,?_⟩
    unfold HN at h
    have hv:(aV r forum f day).1.view=bU f day:=by rw [he]
    rw [hv] at h
    obtain ⟨part,hp,h⟩:=List.mem_flatMap.1 h
    obtain ⟨o,ho,h⟩:=List.mem_flatMap.1 h
    obtain ⟨sign,hs,h⟩:=List.mem_flatMap.1 h
    unfold vR at h
    rw [hv,B2] at h
    cases hc:(bI (aV r forum f day).1 o sign (az (bU f day) part) (cS r forum f day)).1 == 0||((aB f day).ah.getD sign.toNat default).dY == o.jq with
    | true=>rw [hc] at h; cases h
    | false =>
      rw [hc,cond_false,List.mem_singleton] at h
      simp only [Bool.or_eq_false_iff,beq_eq_false_iff_ne,ne_eq] at hc
      exact ⟨part,o,sign,hp,ho,hs,hc.1,hc.2,h⟩
theorem S6 {f:ar} {day part:Int}:(az (bU f day) part).length≤f.ah.length:=by
  have:=(lr (bU f day) part).1
  rwa [OE] at this
theorem DZ {r:ai} {forum:Int} {f:ar} {day:Int} {c:Claim} (hF:bX r f) (hR:r.c9) (h:c∈dt r forum f day) :
    (0≤c.sign∧c.sign < f.ah.length)∧(-1≤c.cj∧c.cj < f.ah.length)∧c.aR=(f.ah.getD c.sign.toNat default).dY∧c.af=(if 0≤c.cj then (f.ah.getD c.cj.toNat default).bP else f.aH.bO) ∧
      c.aR≠c.af∧(c.state=1∨c.state=2)∧dk c.sum∧c.aE=f.aH.aE:=by
  obtain ⟨he,part,o,sign,k⟩:=DY h
  have hlen:=nd f day
  have hl:=Hu k.li
  have hm:=Ht hl.2
  rw [B2] at hm
  have hll:(az (bU f day) part).length≤1000000:=by have:=S6 (f:=f) (day:=day) (part:=part); have:=hF.2.1.1; omega
  have hs:=S5 (aV r forum f day).1 o sign (az (bU f day) part) (cS r forum f day) hll
  have kE:=k.st
  have ho:=(Qy k.own).1
  have hvn:(aV r forum f day).1.view.now=aB f day:=by rw [he]; exact B2 f day
  rw [hvn,N5] at ho
  have VC:(o.sign = -1∧o.jq=f.aH.bO)∨(0≤o.sign∧o.sign < f.ah.length∧o.jq=(f.ah.getD o.sign.toNat default).bP):=by
    rcases ho with ho | ⟨h1,h2⟩
    · exact .inl ho
    · have hk:=SQ h1
      rw [OE,Vk] at hk
      have QN:=hF.US hk.1 hk.2.1 hk.2.2.2.2.1
      rw [Bl f day _ (by omega)] at h2
      exact .inr ⟨hk.1,hk.2.1,h2⟩
  have MM:mJ r forum f sign day=mJ r forum f sign day:=rfl
  have WW:=uO r forum f sign day ⟨hF,hR⟩
  obtain rfl:=k.eq
  refine ⟨⟨hm.1,by have:=hm.2.1; show sign < _; omega⟩,?_,?_,?_,k.ne,?_,WW,rfl⟩
  · show -1≤o.sign∧o.sign < _
    rcases VC with VC | VC <;> omega
  · show ((aB f day).ah.getD sign.toNat default).dY=_
    rw [Bl f day _ (by omega)]
  · show o.jq=if 0≤o.sign then (f.ah.getD o.sign.toNat default).bP else f.aH.bO
    rcases VC with VC | VC
    · rw [if_neg (by omega)]; exact VC.2
    · rw [if_pos VC.1]; exact VC.2.2
  · show (bI _ _ _ _ _).1=1∨_
    rcases hs with hs | hs | hs
    · exact absurd hs kE
    · exact .inl hs
    · exact .inr hs
/-- an act O9 is a Fo -/
def Az (g:ar) (a:bC):Prop:=a.kind=6∧0≤a.at_∧a.at_ < (g.ah.length:Int)
def L2 (g:ar) (st:Bool) (bP:Int):Prop:=st=true↔∀ q,q < g.ah.length→(g.ah.getD q default).dY≠bP
/-- JS adh after JS first k au -/
inductive AA (g:ar) (l0:List Claim):Nat→List Claim→Prop
  | zero:AA g l0 0 l0
  | skip {k:Nat} {l:List Claim}:AA g l0 k l→k < g.au.length→¬ Az g (g.au.getD k default)→AA g l0 (k+1) l
  | B8 {k:Nat} {l out:List Claim} {st:Bool}:AA g l0 k l→k < g.au.length→Az g (g.au.getD k default)→L2 g st (g.au.getD k default).bP→sP l (g.au.getD k default) st out→AA g l0 (k+1) out
theorem AA.len {g:ar} {l0 l:List Claim} {k:Nat} (h:AA g l0 k l):l0.length≤l.length:=by
  induction h with
  | zero=>exact Nat.le_refl _
  | skip _ _ _ ih=>exact ih
  | B8 _ _ _ _ ha ih=>exact Nat.le_trans ih ha.len
theorem AA.abi {g:ar} {l0 l:List Claim} {k:Nat} (h:AA g l0 k l):∀ i,i < l0.length→wy (l.getD i default) (l0.getD i default):=by
  induction h with
  | zero=>exact fun i _=>wy.rfl' _
  | skip _ _ _ ih=>exact ih
  | B8 h _ _ _ ha ih=>exact fun i hi=>(ha.old i (Nat.lt_of_lt_of_le hi h.len)).1.trans (ih i hi)
theorem Vl {x y:Claim} (h:wy x y):Mj x=Mj y:=by simp only [Mj,h.1.1,h.1.2.2.1,h.1.2.2.2.1]
theorem AA.Mj {g:ar} {l0 l:List Claim} {k:Nat} (h:AA g l0 k l):∀ x∈l,Mj x∈l0.map Mj:=by
  induction h with
  | zero=>exact fun x hx=>List.mem_map.2 ⟨x,hx,rfl⟩
  | skip _ _ _ ih=>exact ih
  | @B8 k l out st h _ _ _ ha ih =>
    intro x hx
    obtain ⟨i,hi,rfl⟩:=List.getElem_of_mem hx
    have e:out[i]=out.getD i default:=by simp [List.getD,hi]
    rw [e]
    by_cases h1:i < l.length
    · rw [Vl (ha.old i h1).1]
      exact ih _ (dM h1)
    · obtain ⟨-,-,-,x,hx,e1,e2,e3,-⟩:=ha.new i (by omega) hi
      have:=ih x hx
      rwa [show Go.Proofs.YtgmnlkccjlnnbaaGreatDoor.Mj (out.getD i default)=Go.Proofs.YtgmnlkccjlnnbaaGreatDoor.Mj x by simp only [Go.Proofs.YtgmnlkccjlnnbaaGreatDoor.Mj,e1,e2,e3]]
theorem AA.count {g:ar} {l0 l:List Claim} {k:Nat} (h:AA g l0 k l):l.length≤l0.length+k * l0.length∧k≤g.au.length:=by
  induction h with
  | zero=>simp
  | skip _ _ _ ih=>exact ⟨by rw [Nat.succ_mul]; omega,by omega⟩
  | B8 h _ _ _ ha ih =>
    have:=ha.few _ h.Mj
    rw [List.length_map] at this
    exact ⟨by rw [Nat.succ_mul]; omega,by omega⟩
/-- Ca was fX to a af by JS first k au -/
def Y8 (g:ar) (cr:Int):Nat→Int
  | 0=>0
  | k+1=>Y8 g cr k+(bif (g.au.getD k default).kind == 6&&((g.au.getD k default).bP == cr||cr == -1&&!(g.ah.any fun s=>s.dY == (g.au.getD k default).bP)) then (g.au.getD k default).sum else 0)
/-- abj are right -/
def L3 (g:ar):Prop:=∀ q,q < g.au.length→(g.au.getD q default).kind=6→Az g (g.au.getD q default)∧dk (g.au.getD q default).sum
theorem OG (f:ar) (d:Int) {q:Nat} (hq:q < (aB f d).au.length):(aB f d).au.getD q default=f.au.getD q default∧q < f.au.length∧(f.au.getD q default).day≤d:=by
  rw [kR] at hq ⊢
  have:=rI _ _ _ hq
  exact ⟨this.1,this.2.1,by simpa using this.2.2⟩
theorem bX.adi {r:ai} {f:ar} (h:bX r f) (d:Int):L3 (aB f d):=by
  intro q hq hk
  obtain ⟨e,h1,h2⟩:=OG f d hq
  rw [e] at hk ⊢
  obtain ⟨hs,-,-,hp⟩:=h.2.2.2.2 q h1
  have hp:=hp hk
  exact ⟨⟨hk,hp.1.1,h.US hp.1.1 hp.1.2 (by omega)⟩,hs⟩
theorem HO {g:ar} {x:Bool} {t:Int} {p:Sign→Bool} (hp:∀ s,p s=true↔s.dY=t) (h:x=true↔∃ q,q < g.ah.length∧p (g.ah.getD q default)=true):L2 g (!x) t:=by
  constructor
  · intro hx q hq e
    have:=h.2 ⟨q,hq,(hp _).2 e⟩
    rw [this] at hx
    cases hx
  · intro hq
    cases hx:x with
    | false=>rfl
    | true =>
      obtain ⟨q,h1,h2⟩:=h.1 hx
      exact absurd ((hp _).1 h2) (hq q h1)
theorem RE {g:ar} {a:bC} (h:((a.kind != 6)||decide (a.at_ < 0)||decide (a.at_≥((g.ah.length:Nat):Int)))=true):¬ Az g a:=by
  rintro ⟨h1,h2,h3⟩
  simp only [Bool.or_eq_true,bne_iff_ne,decide_eq_true_eq] at h
  rcases h with (h | h) | h
  · exact h h1
  · omega
  · omega
theorem QB {g:ar} {a:bC} (h:((a.kind != 6)||decide (a.at_ < 0)||decide (a.at_≥((g.ah.length:Nat):Int)))=false):Az g a:=by
  simp only [Bool.or_eq_false_iff,bne_eq_false_iff_eq,decide_eq_false_iff_not] at h
  exact ⟨h.1.1,by omega,by omega⟩
theorem Vm {α:Type} (g:α→α) (l:List α) (n:Nat):((l.take n).map g++l.drop n).length=l.length:=by
  simp only [List.length_append,List.length_map,List.length_take,List.length_drop]
  omega
theorem OH {α:Type} [Inhabited α] (g:α→α) {l:List α} {n:Nat} (h:n < l.length):((l.take n).map g++l.drop n).getD n default=l.getD n default:=by
  simp only [List.getD]
  rw [List.getElem?_append_right (by simp; omega)]
  have:n - ((l.take n).map g).length=0:=by simp; omega
  rw [this,List.getElem?_drop,Nat.add_zero]
theorem OI {α:Type} [Inhabited α] (g:α→α) {l:List α} {n:Nat} (h:n < l.length):((l.take n).map g++l.drop n).set n (g (l.getD n default))=(l.take (n+1)).map g++l.drop (n+1):=by
  have h1:((l.take n).map g).length=n:=by simp; omega
  have h2:l[n]?.toList=[l.getD n default]:=by simp [List.getD,h]
  rw [List.set_append_right _ _ (by omega),h1,Nat.sub_self,List.take_add_one,h2,List.drop_eq_getElem_cons h,List.set_cons_zero,List.map_append,List.append_assoc,List.map_cons,List.map_nil,List.singleton_append]
theorem S7 {α:Type} [Inhabited α] (g:α→α) {l:List α} {n:Nat} (h:n < l.length) (hg:g (l.getD n default)=l.getD n default):(l.take n).map g++l.drop n=(l.take (n+1)).map g++l.drop (n+1):=by
  rw [← OI g h,hg,← OH g h]
  have h2:n < ((l.take n).map g++l.drop n).length:=by rw [Vm]; exact h
  generalize (l.take n).map g++l.drop n=m at h2
  refine List.ext_getElem (by simp) (fun i h3 h4=>?_)
  rw [List.getElem_set]
  split
  · rename_i e
    subst e
    simp [List.getD,h2]
  · rfl
/-! one Fo -/
def RF (a:bC) (x:Claim):Claim:={ x with af:=a.dY,cj:=a.at_,sum:=iI a x }
def isS (a:bC) (kind:Int) (st:Bool) (x:Claim):Bool:=cJ a st x&&(((kind != 1)&&((x.mN == 0)||(decide (x.sign < a.at_))))&&(x.aR != a.dY))
def oK (a:bC) (kind:Int) (st:Bool) (qf:List Claim) (x:Claim):List Claim:=bif isS a kind st x then oo qf (RF a x) else qf
def stepOf (a:bC) (st:Bool) (x:Claim):List Step:=bif cJ a st x then [{ aR:=x.aR,af:=x.af,sign:=x.sign,sum:=iI a x }] else []
theorem HP (l:List Claim) (a:bC) (kind:Int) (st:Bool):de l a kind st=((l.foldl (oK a kind st) []).foldl jv (l.map (jS a st)),l.flatMap (stepOf a st)):=by
  unfold de jh
  dsimp +instances only [Sk.pC,Sk.rq,Sk.vj,Sk.oe,Sk.ue,Sk.xh,Sk.PM,Sk.jR,gV.Kb,kk,kp,aY.zU,xg.Kb,gW.Kb,lM,sN,kI,mA]
  have uV:mZ l=l:=(sM l).2
  rw [uV]
  have h1:=Fl l.length (fun n=>((l.take n).map (jS a st)++l.drop n,(l.take n).flatMap (stepOf a st),(l.take n).foldl (oK a kind st) [])) (fun s i=>(s.1,s.2.1,s.2.2,i))
    (f:=fun i3:List Claim × List Step × List Claim × Nat=>bif decide (((i3.2.2.2:Nat):Int) < ((l.length:Nat):Int)) then
      bif !(cJ a st (l.getD i3.2.2.2 default)) then Sum.inr (i3.1,i3.2.1,i3.2.2.1,i3.2.2.2+1) else
      bif (((kind != 1)&&((((l.getD i3.2.2.2 default).mN) == 0)||(decide (((l.getD i3.2.2.2 default).sign) < a.at_))))&&(((l.getD i3.2.2.2 default).aR) != a.dY)) then
        Sum.inr (i3.1.set i3.2.2.2 ({ i3.1.getD i3.2.2.2 default with sum:=aq ((bL 0 ((l.getD i3.2.2.2 default).sum)) - (ch (bL 0 a.sum) (bL 0 ((l.getD i3.2.2.2 default).sum)))) }),i3.2.1++[({ aR:=(l.getD i3.2.2.2 default).aR,af:=(l.getD i3.2.2.2 default).af,sign:=(l.getD i3.2.2.2 default).sign,sum:=ch (bL 0 a.sum) (bL 0 ((l.getD i3.2.2.2 default).sum)) }:Step)],oo i3.2.2.1 ({ l.getD i3.2.2.2 default with af:=a.dY,cj:=a.at_,sum:=ch (bL 0 a.sum) (bL 0 ((l.getD i3.2.2.2 default).sum)) }),i3.2.2.2+1)
      else Sum.inr (i3.1.set i3.2.2.2 ({ i3.1.getD i3.2.2.2 default with sum:=aq ((bL 0 ((l.getD i3.2.2.2 default).sum)) - (ch (bL 0 a.sum) (bL 0 ((l.getD i3.2.2.2 default).sum)))) }),i3.2.1++[({ aR:=(l.getD i3.2.2.2 default).aR,af:=(l.getD i3.2.2.2 default).af,sign:=(l.getD i3.2.2.2 default).sign,sum:=ch (bL 0 a.sum) (bL 0 ((l.getD i3.2.2.2 default).sum)) }:Step)],i3.2.2.1,i3.2.2.2+1)
      else Sum.inl (Sum.inr (i3.1,i3.2.1,i3.2.2.1)))
    (d:=(default:(List Claim × List Step) ⊕ (List Claim × List Step × List Claim)))
    (fun s=>Sum.inr s) (fun i hi=>by
      have et:l.take (i+1)=l.take i++[l.getD i default]:=by
        rw [List.take_succ_eq_append_getElem hi]; simp [List.getD,hi]
      have e2:(l.take (i+1)).flatMap (stepOf a st)=(l.take i).flatMap (stepOf a st)++stepOf a st (l.getD i default):=by rw [et]; simp
      have e3:(l.take (i+1)).foldl (oK a kind st) []=oK a kind st ((l.take i).foldl (oK a kind st) []) (l.getD i default):=by rw [et,List.foldl_append]; rfl
      dsimp only
      rw [decide_eq_true (by omega),cond_true,e2,e3]
      cases hm:cJ a st (l.getD i default) with
      | false =>
        have er:jS a st (l.getD i default)=l.getD i default:=by unfold jS; rw [hm]; rfl
        have es:stepOf a st (l.getD i default)=[]:=by unfold stepOf; rw [hm]; rfl
        have ei:∀ s,oK a kind st s (l.getD i default)=s:=fun s=>by unfold oK isS; rw [hm]; rfl
        rw [S7 _ hi er,es,ei,List.append_nil]; rfl
      | true =>
        have er:jS a st (l.getD i default) = { l.getD i default with sum:=aq ((bL 0 ((l.getD i default).sum)) - (ch (bL 0 a.sum) (bL 0 ((l.getD i default).sum)))) }:=by unfold jS iI; rw [hm]; rfl
        have es:stepOf a st (l.getD i default)=[({ aR:=(l.getD i default).aR,af:=(l.getD i default).af,sign:=(l.getD i default).sign,sum:=ch (bL 0 a.sum) (bL 0 ((l.getD i default).sum)) }:Step)]:=by unfold stepOf iI; rw [hm]; rfl
        have ei:∀ s,oK a kind st s (l.getD i default)=bif (((kind != 1)&&((((l.getD i default).mN) == 0)||(decide (((l.getD i default).sign) < a.at_))))&&(((l.getD i default).aR) != a.dY)) then oo s (RF a (l.getD i default)) else s:=fun s=>by unfold oK isS; rw [hm,Bool.true_and]
        rw [OH _ hi,← er,OI _ hi,es,ei,Bool.not_true,cond_false]
        cases (((kind != 1)&&((((l.getD i default).mN) == 0)||(decide (((l.getD i default).sign) < a.at_))))&&(((l.getD i default).aR) != a.dY)) <;> rfl)
    (by dsimp only; rw [decide_eq_false (by omega),cond_false]) (m:=l.length - 0+1) (by omega)
  rw [List.take_length,List.drop_length,List.append_nil] at h1
  refine (congrArg (fun q=>(ki q fun b2:List Claim × List Step × List Claim=>ki (iter (fun i7:List Claim × Nat=>bif decide (((i7.2:Nat):Int) < ((b2.2.2.length:Nat):Int)) then Sum.inr (jv i7.1 (b2.2.2.getD i7.2 default),i7.2+1) else Sum.inl (Sum.inr i7.1)) (default:(List Claim × List Step) ⊕ List Claim) (b2.2.2.length - 0+1) (b2.1,0)) fun b6=>(b6,b2.2.1))) h1).trans ?_
  refine ((Gh (l.foldl (oK a kind st) []) (fun s i=>(s,i)) (fun c v=>.inr (jv v c)) (fun v=>v) (fun b6=>(b6,l.flatMap (stepOf a st))) (fun s i hi=>?_) (fun s=>?_) (by dsimp only; omega) (l.map (jS a st)))).trans ?_
  · dsimp only
    rw [decide_eq_true (by omega),cond_true]
  · dsimp only
    rw [decide_eq_false (by omega),cond_false]
  · rw [qS (fun c v=>jv v c)]

def nN (L:List Claim):Prop:=∀ x,x∈L→dk x.sum
/-- JS UK have not adj less -/
def Up (m v:List Claim):Prop:=m.length≤v.length∧∀ i,i < m.length→(m.getD i default).sum≤(v.getD i default).sum
theorem Up.rfl' (m:List Claim):Up m m:=⟨Nat.le_refl _,fun _ _=>Int.le_refl _⟩
theorem Up.trans {a b c:List Claim} (h:Up a b) (k:Up b c):Up a c:=⟨Nat.le_trans h.1 k.1,fun i hi=>Int.le_trans (h.2 i hi) (k.2 i (Nat.lt_of_lt_of_le hi h.1))⟩
theorem nN.merge {f:Claim→Claim} {l x:List Claim} {c:Claim} (h:nN l) (hc:dk c.sum) (hf:∀ y,dk y.sum→dk (f y).sum) (hm:oj f l c x):nN x:=by
  rcases hm with ⟨i,hi,-,rfl⟩ | ⟨-,rfl⟩
  · intro z hz
    rcases Gr hz with rfl | hz
    · exact hf _ (h _ (dM hi))
    · exact h z hz
  · intro z hz
    rcases List.mem_append.1 hz with hz | hz
    · exact h z hz
    · rw [List.mem_singleton.1 hz]; exact hc
theorem RG {c x:Claim} (hc:dk c.sum) (hx:dk x.sum):dk (fJ c x).sum∧x.sum≤(fJ c x).sum:=by
  unfold dk at *
  show (0≤ch _ _∧ch _ _≤_)∧_≤ch _ _
  rw [aD (by omega) (by omega)]
  unfold ch; split <;> omega
theorem Up.merge {l x:List Claim} {c:Claim} (h:nN l) (hc:dk c.sum) (hm:oj (fJ c) l c x):Up l x:=by
  rcases hm with ⟨i,hi,-,rfl⟩ | ⟨-,rfl⟩
  · refine ⟨by simp,fun j hj=>?_⟩
    rw [xl hj]
    split
    · rename_i e
      subst e
      exact (RG hc (h _ (dM hi))).2
    · exact Int.le_refl _
  · refine ⟨by simp,fun j hj=>?_⟩
    have:(l++[c]).getD j default=l.getD j default:=by simp [List.getD,List.getElem?_append_left hj]
    rw [this]
    exact Int.le_refl _
theorem OJ:∀ (qf v:List Claim),nN v→nN qf→nN (qf.foldl jv v)∧Up v (qf.foldl jv v)
  | [],v,hv,_=>⟨hv,Up.rfl' v⟩
  | c :: r,v,hv,hi=>by
    have hc:=hi c (by simp)
    have hm:oj (fJ c) v c (jv v c):=zt v c
    have h1:=hv.merge hc (fun y hy=>(RG hc hy).1) hm
    have ih:=OJ r (jv v c) h1 (fun x hx=>hi x (by simp [hx]))
    exact ⟨ih.1,(Up.merge hv hc hm).trans ih.2⟩
theorem HR {a:bC} {x:Claim} (ha:dk a.sum) (hx:dk x.sum):dk (iI a x)∧iI a x≤a.sum∧iI a x≤x.sum:=by
  have e1:bL 0 a.sum=a.sum:=by unfold bL; split <;> omega
  have e2:bL 0 x.sum=x.sum:=by unfold bL; split <;> omega
  unfold iI
  rw [e1,e2]
  unfold ch
  split <;> omega
theorem OK {a:bC} {kind:Int} {st:Bool} (ha:dk a.sum):∀ (l qf:List Claim),nN l→nN qf→nN (l.foldl (oK a kind st) qf)
  | [],_,_,hi=>hi
  | x :: r,qf,hl,hi=>by
    rw [List.foldl_cons]
    refine OK ha r _ (fun y hy=>hl y (by simp [hy])) ?_
    unfold oK
    cases isS a kind st x with
    | false=>exact hi
    | true =>
      have hc:dk (RF a x).sum:=(HR ha (hl x (by simp))).1
      refine hi.merge hc (fun y hy=>?_) (xm qf (RF a x))
      exact Gq hy hc
theorem RH {a:bC} {st:Bool} {x:Claim} (ha:dk a.sum) (hx:dk x.sum):dk (jS a st x).sum∧(cJ a st x=true→x.sum - a.sum≤(jS a st x).sum)∧(cJ a st x=false→x.sum=(jS a st x).sum):=by
  have hl:=HR ha hx
  unfold jS
  cases cJ a st x with
  | false=>exact ⟨hx,fun h=>(by cases h),fun _=>rfl⟩
  | true =>
    show dk (aq (bL 0 x.sum - iI a x))∧(_→x.sum - a.sum≤aq (bL 0 x.sum - iI a x))∧_
    have e:bL 0 x.sum=x.sum:=by unfold bL dk at *; split <;> omega
    unfold dk at *
    rw [e,aD (by omega) (by omega)]
    exact ⟨by omega,fun _=>by omega,fun h=>(by cases h)⟩
/-- Ca a Fo leaves of each ja -/
theorem S8 {l:List Claim} {a:bC} {kind:Int} {st:Bool} (ha:dk a.sum) (hl:nN l):nN (de l a kind st).1∧∀ i,i < l.length→(cJ a st (l.getD i default)=true→(l.getD i default).sum - a.sum≤((de l a kind st).1.getD i default).sum)∧(cJ a st (l.getD i default)=false→(l.getD i default).sum≤((de l a kind st).1.getD i default).sum):=by
  rw [HP]
  have hm:nN (l.map (jS a st)):=fun y hy=>by
    obtain ⟨x,hx,rfl⟩:=List.mem_map.1 hy
    exact (RH ha (hl x hx)).1
  have hj:=OJ (l.foldl (oK a kind st) []) (l.map (jS a st)) hm (OK ha l [] hl (fun x hx=>by cases hx))
  refine ⟨hj.1,fun i hi=>?_⟩
  have h1:=hj.2.2 i (by simpa using hi)
  have e:(l.map (jS a st)).getD i default=jS a st (l.getD i default):=by simp [List.getD,hi]
  rw [e] at h1
  have h2:=RH (st:=st) ha (hl _ (dM hi))
  exact ⟨fun h=>Int.le_trans (h2.2.1 h) h1,fun h=>by rw [h2.2.2 h]; exact h1⟩
/-- abT is met is named by a step -/
theorem OL {l:List Claim} {a:bC} {kind:Int} {st:Bool} {i:Nat} (hi:i < l.length) (hm:cJ a st (l.getD i default)=true):∃ j,j < (de l a kind st).2.length∧((de l a kind st).2.getD j default).af=(l.getD i default).af:=by
  rw [HP]
  have:({ aR:=(l.getD i default).aR,af:=(l.getD i default).af,sign:=(l.getD i default).sign,sum:=iI a (l.getD i default) }:Step)∈l.flatMap (stepOf a st):=by
    refine List.mem_flatMap.2 ⟨_,dM hi,?_⟩
    unfold stepOf
    rw [hm]
    exact List.mem_singleton.2 rfl
  obtain ⟨j,hj,e⟩:=List.getElem_of_mem this
  exact ⟨j,hj,by rw [List.getD_eq_getElem?_getD,List.getElem?_eq_getElem hj,Option.getD_some,e]⟩
/-! Ca was Vn -/
def Real (f:Int→Int):Prop:=∃ m,Fh f m
theorem Real.zero:Real Xx:=⟨[],Ri⟩
theorem Real.wK {f:Int→Int} (h:Real f) (k v:Int):Real (Bc f k v):=by
  obtain ⟨m,hm⟩:=h
  exact ⟨_,Rj hm k v⟩
theorem Real.get {f:Int→Int} (h:Real f) (k:Int):gp (canon (Fh f)) k 0=f k:=Ge h k
def VD (f:Int→Int):Prop:=∀ c,0≤f c∧f c≤1099511627776
theorem VD.zero:VD Xx:=fun _=>⟨Int.le_refl _,by unfold Xx; omega⟩
/-- a Fo of a is put to Ca c has -/
def wF (a:Int) (g:Int→Int) (c:Int):Int→Int:=Bc g c (ch 1099511627776 (aq (g c+a)))
theorem S9 (a:Int) (g:Int→Int) (c d:Int):wF a (wF a g c) d=wF a (wF a g d) c:=by
  by_cases h:c=d
  · subst h; rfl
  · have h':¬ d=c:=fun e=>h e.symm
    funext q
    unfold wF Bc
    simp only [h,h',if_false]
    by_cases h1:q=d
    · subst h1; simp [h']
    · by_cases h2:q=c
      · subst h2; simp [h]
      · simp [h1,h2]
theorem WX {a:Int} {g:Int→Int} (ha:dk a) (hg:VD g) (c:Int):VD (wF a g c)∧(∀ q,g q≤wF a g c q)∧(g c+a≤wF a g c c∨wF a g c c=1099511627776):=by
  have h1:=hg c
  have hw:aq (g c+a)=g c+a:=aD (by unfold dk at ha; omega) (by unfold dk at ha; omega)
  have e:wF a g c c=ch 1099511627776 (g c+a):=by unfold wF Bc; rw [if_pos rfl,hw]
  have e2:∀ q,q≠c→wF a g c q=g q:=fun q hq=>by unfold wF Bc; rw [if_neg hq]
  unfold dk at ha
  have h3:0≤ch 1099511627776 (g c+a)∧ch 1099511627776 (g c+a)≤1099511627776∧g c≤ch 1099511627776 (g c+a)∧(g c+a≤ch 1099511627776 (g c+a)∨ch 1099511627776 (g c+a)=1099511627776):=by
    unfold ch; split <;> omega
  refine ⟨fun q=>?_,fun q=>?_,by rw [e]; exact h3.2.2.2⟩
  · by_cases hq:q=c
    · subst hq; rw [e]; exact ⟨h3.1,h3.2.1⟩
    · rw [e2 q hq]; exact hg q
  · by_cases hq:q=c
    · subst hq; rw [e]; exact h3.2.2.1
    · rw [e2 q hq]; exact Int.le_refl _
/-- Ca each of aal O9 are met has got by a Fo of a -/
def vZ (a:Int) (f:Int→Int) (m:List (Int × Bool)) (g:Int→Int):Prop:=Real g∧(dk a→VD f→VD g∧(∀ c,f c≤g c)∧∀ q,q < m.length→f (m.getD q default).1+a≤g (m.getD q default).1∨g (m.getD q default).1=1099511627776)
theorem OM {a:Int} {m:List (Int × Bool)} {f:Int→Int} (hf:Real f) {step:(Int→Int)→Nat→(Int→Int)} (hs:∀ g i,Real g→step g i=wF a g (m.getD i default).1) :
    ∀ is:List Nat,Real (is.foldr (fun i g=>step g i) f)∧(dk a→VD f→VD (is.foldr (fun i g=>step g i) f)∧(∀ c,f c≤is.foldr (fun i g=>step g i) f c)∧∀ i,i∈is→f (m.getD i default).1+a≤is.foldr (fun i g=>step g i) f (m.getD i default).1∨is.foldr (fun i g=>step g i) f (m.getD i default).1=1099511627776)
  | []=>⟨hf,fun _ hb=>⟨hb,fun _=>Int.le_refl _,fun i hi=>by cases hi⟩⟩
  | i :: r=>by
    have ih:=OM hf hs r
    simp only [List.foldr_cons]
    rw [hs _ i ih.1]
    refine ⟨ih.1.wK _ _,fun ha hb=>?_⟩
    obtain ⟨q1,q2,q3⟩:=ih.2 ha hb
    obtain ⟨p1,p2,p3⟩:=WX ha q1 (m.getD i default).1
    refine ⟨p1,fun c=>Int.le_trans (q2 c) (p2 c),fun j hj=>?_⟩
    rcases List.mem_cons.1 hj with rfl | hj
    · have:=q2 (m.getD j default).1
      rcases p3 with h | h
      · exact .inl (by omega)
      · exact .inr h
    · have h1:=p2 (m.getD j default).1
      have h2:=(p1 (m.getD j default).1).2
      rcases q3 j hj with h | h
      · exact .inl (by omega)
      · exact .inr (by omega)
theorem vZ.of {a:Int} {m:List (Int × Bool)} {f:Int→Int} (hf:Real f) {step:(Int→Int)→Nat→(Int→Int)} (hs:∀ g i,Real g→step g i=wF a g (m.getD i default).1) {g:Int→Int} (hg:g=(List.range m.length).foldr (fun i g=>step g i) f):vZ a f m g:=by
  have h:=OM hf hs (List.range m.length)
  subst hg
  exact ⟨h.1,fun ha hb=>⟨(h.2 ha hb).1,(h.2 ha hb).2.1,fun q hq=>(h.2 ha hb).2.2 q (List.mem_range.2 hq)⟩⟩
/-- a key adk in a map -/
def AB (m:List (Int × Bool)) (c:Int):Prop:=∃ q,q < m.length∧(m.getD q default).1=c
theorem AB.mem {m:List (Int × Bool)} {c:Int}:AB m c↔c∈m.map (·.1):=by
  constructor
  · rintro ⟨q,hq,rfl⟩
    exact List.mem_map.2 ⟨m[q],List.getElem_mem _,by simp [List.getD,hq]⟩
  · intro h
    obtain ⟨x,hx,rfl⟩:=List.mem_map.1 h
    obtain ⟨q,hq,rfl⟩:=List.getElem_of_mem hx
    exact ⟨q,hq,by simp [List.getD,hq]⟩
theorem Dn (k:Int) (v:Bool):∀ (m:List (Int × Bool)),k∈(mL m k v).map (·.1)∧∀ c,c∈m.map (·.1)→c∈(mL m k v).map (·.1)
  | []=>⟨by simp [mL],fun c h=>by cases h⟩
  | p :: r=>by
    have ih:=Dn k v r
    simp only [mL]
    by_cases hk:k=p.1
    · subst hk
      simp
    · have h1:(k == p.1)=false:=by simpa using hk
      simp only [h1,cond_false,List.map_cons,List.mem_cons]
      exact ⟨.inr ih.1,fun c hc=>hc.imp id (ih.2 c)⟩
theorem AB.put (m:List (Int × Bool)) (k:Int) (v:Bool):AB (mL m k v) k:=AB.mem.2 (Dn k v m).1
theorem AB.more {m:List (Int × Bool)} {c:Int} (h:AB m c) (k:Int) (v:Bool):AB (mL m k v) c:=AB.mem.2 ((Dn k v m).2 c (AB.mem.1 h))
/-- Ca was Vn Cn Ca is gone -/
def abk (l0 l:List Claim) (f:Int→Int):Prop:=∀ i,i < l0.length→(l0.getD i default).sum≤(l.getD i default).sum+f (l0.getD i default).af
def nX (g:ar) (l0:List Claim) (k:Nat) (l:List Claim) (f:Int→Int):Prop:=AA g l0 k l∧Real f∧(L3 g→nN l0→nN l∧VD f∧abk l0 l f)
theorem nX.zero (g:ar) (l0:List Claim):nX g l0 0 l0 Xx:=⟨.zero,Real.zero,fun _ hs=>⟨hs,VD.zero,fun i _=>by unfold Xx; omega⟩⟩
theorem nX.skip {g:ar} {l0 l:List Claim} {k:Nat} {f:Int→Int} (h:nX g l0 k l f) (hk:k < g.au.length) (hn:¬ Az g (g.au.getD k default)):nX g l0 (k+1) l f:=⟨h.1.skip hk hn,h.2⟩
theorem nX.B8 {g:ar} {l0 l:List Claim} {k:Nat} {f f':Int→Int} {kind:Int} {st:Bool} {m:List (Int × Bool)} (h:nX g l0 k l f) (hk:k < g.au.length) (hp:Az g (g.au.getD k default)) (hs:L2 g st (g.au.getD k default).bP)
    (ha:sP l (g.au.getD k default) st (de l (g.au.getD k default) kind st).1) (hm:∀ j,j < (de l (g.au.getD k default) kind st).2.length→AB m ((de l (g.au.getD k default) kind st).2.getD j default).af)
    (hg:vZ (g.au.getD k default).sum f m f'):nX g l0 (k+1) (de l (g.au.getD k default) kind st).1 f':=by
  refine ⟨h.1.B8 hk hp hs ha,hg.1,fun hP h0=>?_⟩
  obtain ⟨h1,h2,h3⟩:=h.2.2 hP h0
  have WW:=(hP k hk hp.1).2
  obtain ⟨g1,g2,g3⟩:=hg.2 WW h2
  have Y9:=S8 (kind:=kind) (st:=st) WW h1
  refine ⟨Y9.1,g1,fun i hi=>?_⟩
  have ZY:i < l.length:=Nat.lt_of_lt_of_le hi h.1.len
  have vX:(l.getD i default).af=(l0.getD i default).af:=(h.1.abi i hi).1.2.1
  have hc:=h3 i hi
  have hl:=Y9.2 i ZY
  have hup:=g2 (l0.getD i default).af
  cases hmt:cJ (g.au.getD k default) st (l.getD i default) with
  | false =>
    have:=hl.2 hmt
    omega
  | true =>
    have h4:=hl.1 hmt
    obtain ⟨j,hj,ej⟩:=OL (kind:=kind) ZY hmt
    obtain ⟨q,hq,eq⟩:=hm j hj
    have h5:=g3 q hq
    rw [eq,ej,vX] at h5
    have h6:=Y9.1 _ (dM (show i < (de l (g.au.getD k default) kind st).1.length from Nat.lt_of_lt_of_le ZY ha.len))
    have h7:=h0 _ (dM hi)
    unfold dk at h6 h7
    rcases h5 with h5 | h5 <;> omega
/-! Dp -/
def gu (L:List Claim) (c:Int):Nat→Int
  | 0=>0
  | k+1=>bif (L.getD k default).af == c then bL (gu L c k) (L.getD k default).sum else gu L c k
theorem D0 {L:List Claim} {c:Int}:∀ k,(∀ j,j < k→(L.getD j default).af≠c)→gu L c k=0
  | 0,_=>rfl
  | k+1,h=>by
    have:((L.getD k default).af == c)=false:=by simpa using h k (by omega)
    rw [gu,this,cond_false,D0 k fun j hj=>h j (by omega)]
structure qn (L:List Claim) (f:Int→Int) (k:Nat) (o:List aA):Prop where
  each:∀ q,q < o.length→(o.getD q default).fX=f (o.getD q default).af∧(o.getD q default).rest=gu L (o.getD q default).af k∧∃ j,j < k∧(L.getD j default).af=(o.getD q default).af∧(L.getD j default).cj=(o.getD q default).place
  once:∀ p q,p < q→q < o.length→(o.getD p default).af≠(o.getD q default).af
  all:∀ j,j < k→∃ q,q < o.length∧(o.getD q default).af=(L.getD j default).af
theorem qn.init (L:List Claim) (f:Int→Int):qn L f 0 []:=⟨fun q h=>by simp at h,fun p q _ h=>by simp at h,fun j h=>absurd h (by omega)⟩
theorem OO {l:List aA} {i j:Nat} {y:aA} (h:j < l.length):(l.set i y).getD j default=if i=j then y else l.getD j default:=by
  simp only [List.getD,List.getElem?_set]
  split
  · subst_vars; simp [h]
  · rfl
theorem qn.old {L:List Claim} {f:Int→Int} {k i:Nat} {o:List aA} (h:qn L f k o) (hi:i < o.length) (hc:(o.getD i default).af=(L.getD k default).af) :
    qn L f (k+1) (o.set i { o.getD i default with rest:=bL ((o.getD i default).rest) ((L.getD k default).sum) }):=by
  have vX:∀ q,q < o.length→((o.set i { o.getD i default with rest:=bL ((o.getD i default).rest) ((L.getD k default).sum) }).getD q default).af=(o.getD q default).af:=fun q hq=>by
    rw [OO hq]
    split
    · rename_i e; subst e; rfl
    · rfl
  refine ⟨fun q hq=>?_,fun p q Q5 hq=>?_,fun j hj=>?_⟩
  · have D4:q < o.length:=by simpa using hq
    rw [vX q D4]
    obtain ⟨a1,a2,j,j1,j2,j3⟩:=h.each q D4
    rw [OO D4]
    by_cases e:i=q
    · subst e
      rw [if_pos rfl]
      refine ⟨a1,?_,j,by omega,j2,j3⟩
      have:((L.getD k default).af == (o.getD i default).af)=true:=by rw [hc]; simp
      rw [gu,this,cond_true,a2]
    · rw [if_neg e]
      refine ⟨a1,?_,j,by omega,j2,j3⟩
      have:((L.getD k default).af == (o.getD q default).af)=false:=by
        rw [beq_eq_false_iff_ne,← hc]
        rcases Nat.lt_or_gt_of_ne e with h1 | h1
        · exact h.once i q h1 D4
        · exact fun e2=>h.once q i h1 hi e2.symm
      rw [gu,this,cond_false,a2]
  · have D4:q < o.length:=by simpa using hq
    rw [vX q D4,vX p (by omega)]
    exact h.once p q Q5 D4
  · rcases Nat.lt_succ_iff_lt_or_eq.1 hj with h1 | rfl
    · obtain ⟨q,q1,q2⟩:=h.all j h1
      exact ⟨q,by simpa using q1,by rw [vX q q1]; exact q2⟩
    · exact ⟨i,by simpa using hi,by rw [vX i hi]; exact hc⟩
theorem qn.new {L:List Claim} {f:Int→Int} {k:Nat} {o:List aA} (h:qn L f k o) (hn:∀ q,q < o.length→(o.getD q default).af≠(L.getD k default).af) {s:aA} (s1:s.af=(L.getD k default).af) (s2:s.place=(L.getD k default).cj) (s3:s.fX=f s.af) (s4:s.rest=bL 0 ((L.getD k default).sum)) :
    qn L f (k+1) (o++[s]):=by
  have e1:∀ q,q < o.length→(o++[s]).getD q default=o.getD q default:=fun q hq=>by simp [List.getD,List.getElem?_append_left hq]
  have e2:(o++[s]).getD o.length default=s:=by simp [List.getD]
  refine ⟨fun q hq=>?_,fun p q Q5 hq=>?_,fun j hj=>?_⟩
  · rcases Nat.lt_succ_iff_lt_or_eq.1 (show q < o.length+1 by simpa using hq) with h1 | rfl
    · rw [e1 q h1]
      obtain ⟨a1,a2,j,j1,j2,j3⟩:=h.each q h1
      refine ⟨a1,?_,j,by omega,j2,j3⟩
      have:((L.getD k default).af == (o.getD q default).af)=false:=by
        rw [beq_eq_false_iff_ne]
        exact fun e=>hn q h1 e.symm
      rw [gu,this,cond_false,a2]
    · rw [e2]
      refine ⟨s3,?_,k,by omega,s1.symm,s2.symm⟩
      have h0:gu L s.af k=0:=D0 k fun j hj e=>by
        obtain ⟨q,q1,q2⟩:=h.all j hj
        exact hn q q1 (q2.trans (e.trans s1))
      have:((L.getD k default).af == s.af)=true:=by rw [s1]; simp
      rw [gu,this,cond_true,h0,s4]
  · rcases Nat.lt_succ_iff_lt_or_eq.1 (show q < o.length+1 by simpa using hq) with h1 | rfl
    · rw [e1 q h1,e1 p (by omega)]
      exact h.once p q Q5 h1
    · rw [e2,e1 p Q5,s1]
      exact hn p Q5
  · rcases Nat.lt_succ_iff_lt_or_eq.1 hj with h1 | rfl
    · obtain ⟨q,q1,q2⟩:=h.all j h1
      exact ⟨q,by simp; omega,by rw [e1 q q1]; exact q2⟩
    · exact ⟨o.length,by simp,by rw [e2]; exact s1⟩
/-- JS Dp,sorted -/
structure RI (L:List Claim) (f:Int→Int) (x:List aA):Prop where
  each:∀ q,q < x.length→(x.getD q default).fX=f (x.getD q default).af∧(x.getD q default).rest=gu L (x.getD q default).af L.length∧∃ j,j < L.length∧(L.getD j default).af=(x.getD q default).af∧(L.getD j default).cj=(x.getD q default).place
  asc:∀ p q,p < q→q < x.length→(x.getD p default).af < (x.getD q default).af
  all:∀ j,j < L.length→∃ q,q < x.length∧(x.getD q default).af=(L.getD j default).af
  len:x.length≤L.length
theorem qn.out {L:List Claim} {f:Int→Int} {o x:List aA} (h:qn L f L.length o) (hl:o.length≤L.length) (hp:x.Perm o) (hs:∀ i j,i < j→j < x.length→(x.getD i default).af≤(x.getD j default).af):RI L f x:=by
  have mem:∀ {l:List aA} {q:Nat},q < l.length→l.getD q default∈l:=fun {l q} hq=>by
    rw [show l.getD q default=l[q] by simp [List.getD,hq]]
    exact List.getElem_mem _
  have idx:∀ {l:List aA} {s:aA},s∈l→∃ q,q < l.length∧l.getD q default=s:=fun {l s} hs=>by
    obtain ⟨q,hq,rfl⟩:=List.getElem_of_mem hs
    exact ⟨q,hq,by simp [List.getD,hq]⟩
  have pw:o.Pairwise fun a b=>a.af≠b.af:=by
    rw [List.pairwise_iff_getElem]
    intro p q RR hq Q5
    have:=h.once p q Q5 hq
    simpa [List.getD,RR,hq] using this
  have pw2:x.Pairwise fun a b=>a.af≠b.af:=(hp.pairwise_iff (fun {a b} hab e=>hab e.symm)).2 pw
  refine ⟨fun q hq=>?_,fun p q Q5 hq=>?_,fun j hj=>?_,by rw [hp.length_eq]; exact hl⟩
  · obtain ⟨i,hi,e⟩:=idx (hp.mem_iff.1 (mem hq))
    rw [← e]
    exact h.each i hi
  · have h1:=hs p q Q5 hq
    have h2:=List.pairwise_iff_getElem.1 pw2 p q (by omega) hq Q5
    have h3:(x.getD p default).af≠(x.getD q default).af:=by simpa [List.getD,show p < x.length by omega,hq] using h2
    omega
  · obtain ⟨i,hi,e⟩:=h.all j hj
    obtain ⟨q,hq,e2⟩:=idx (hp.mem_iff.2 (mem hi))
    exact ⟨q,hq,by rw [e2]; exact e⟩
/-- ZZ are no RC numbers -/
def CrB (L:List Claim):Prop:=∀ x,x∈L→-1000000≤x.af∧x.af≤1000000
theorem OP (o:List aA) (s:aA) (v:Int):(o++[s]).set o.length { (o++[s]).getD o.length default with rest:=bL ((o++[s]).getD o.length default).rest v }=o++[{ s with rest:=bL s.rest v }]:=by
  have h:(o++[s]).getD o.length default=s:=by simp [List.getD]
  rw [h,List.set_append_right _ _ (Nat.le_refl _),Nat.sub_self]
  rfl
theorem qn.cr {L:List Claim} {f:Int→Int} {k:Nat} {o:List aA} (h:qn L f k o) (hk:k≤L.length) (hL:CrB L):∀ s,s∈o→-1000000≤s.af∧s.af≤1000000:=fun s hs=>by
  obtain ⟨q,hq,rfl⟩:=List.getElem_of_mem hs
  obtain ⟨-,-,j,h1,h2,-⟩:=h.each q hq
  have e:o.getD q default=o[q]:=by simp [List.getD,hq]
  rw [e] at h2
  rw [← h2]
  exact hL _ (dM (by omega))
theorem KB {L:List Claim} {c:Int}:∀ (k:Nat) {j:Nat},j < k→(L.getD j default).af=c→(L.getD j default).sum≤gu L c k
  | 0,j,h,_=>absurd h (by omega)
  | k+1,j,h,hc=>by
    rw [gu]
    rcases Nat.lt_succ_iff_lt_or_eq.1 h with h1 | rfl
    · have ih:=KB k h1 hc
      cases (L.getD k default).af == c with
      | false=>exact ih
      | true =>
        simp only [cond_true]
        unfold bL
        split <;> omega
    · have:((L.getD j default).af == c)=true:=by rw [hc]; simp
      rw [this,cond_true]
      unfold bL
      split <;> omega
theorem HS {L:List Claim} {c:Int} (h:nN L):∀ (k:Nat),k≤L.length→dk (gu L c k)
  | 0,_=>by unfold gu dk; omega
  | k+1,hk=>by
    have ih:=HS (c:=c) h k (by omega)
    have h1:=h _ (dM (show k < L.length by omega))
    rw [gu]
    cases (L.getD k default).af == c with
    | false=>exact ih
    | true=>exact Gq ih h1
/-- Ca was fX to a af,and Ca is left,cover each ja O9 there was -/
theorem Vo {g:ar} {l0 L:List Claim} {k:Nat} {f:Int→Int} {x:List aA} (h:nX g l0 k L f) (hP:L3 g) (h0:nN l0) (hx:RI L f x) {i:Nat} (hi:i < l0.length) :
    ∃ q,q < x.length∧(x.getD q default).af=(l0.getD i default).af∧(l0.getD i default).sum≤aq ((x.getD q default).fX+(x.getD q default).rest):=by
  obtain ⟨h1,h2,h3⟩:=h.2.2 hP h0
  have ZY:i < L.length:=Nat.lt_of_lt_of_le hi h.1.len
  have vX:(L.getD i default).af=(l0.getD i default).af:=(h.1.abi i hi).1.2.1
  obtain ⟨q,hq,e⟩:=hx.all i ZY
  obtain ⟨e1,e2,-⟩:=hx.each q hq
  refine ⟨q,hq,e.trans vX,?_⟩
  have hc:=h3 i hi
  have XY:=KB (c:=(x.getD q default).af) L.length ZY e.symm
  have hr:=HS (c:=(x.getD q default).af) h1 L.length (Nat.le_refl _)
  have hf:=h2 (x.getD q default).af
  rw [e1,e2]
  unfold dk at hr
  rw [aD (by omega) (by omega)]
  rw [← vX,← e] at hc
  omega
theorem WY {g:ar} {l0 L:List Claim} {k:Nat} {f:Int→Int} {x:List aA} (h:nX g l0 k L f) (hP:L3 g) (h0:nN l0) (hx:RI L f x) {i:Nat} (hi:i < x.length):0≤(x.getD i default).fX∧(x.getD i default).fX≤1099511627776:=by
  rw [(hx.each i hi).1]
  exact (h.2.2 hP h0).2.1 _
def oL (r:ai) (forum:Int) (f:ar) (day:Int):Sk ((List Claim) × (Int→Int)) :=
 .r 1 ((bT f day).c) fun x1 =>
 .r 2 ((tP 29 r forum f day).c) fun x2 =>
 .r 3 (.o [.pq (mkM dI)]) fun _ =>
 .cq 30 ([]:List (Int × Int)) (Fh Xx) <|
 .bind true (fun b3=>nX x1 x2 x1.au.length b3.1 b3.2)
 (.loop (default:Sum ((List Claim) × (Int→Int)) ((List Claim) × (Int→Int))) (fun i4=>i4.2.1≤x1.au.length∧nX x1 x2 i4.2.1 i4.1 i4.2.2) (fun i4=>x1.au.length - i4.2.1) ((x2,0,Xx):(List Claim) × Nat × (Int→Int))
 (fun (i4:(List Claim) × Nat × (Int→Int))=>⟨[(11,ow 100006 i4.1),(34,iv ((i4.2.1:Nat):Int))],[(100006,bg 50 9 Claim.cells i4.1),(30,.mx (Fh i4.2.2))]⟩) fun i4 =>
 .lt 32 0 i4.2.1 x1.au.length
 (.bind true (fun b5=>nX x1 x2 (i4.2.1+1) b5.1 b5.2)
 (.r 6 (.p (bA ((i4.2.1:Nat):Int) x1.au.length)) fun _ =>
 .br (((((x1.au.getD i4.2.1 default).kind) != 6)||(decide (((x1.au.getD i4.2.1 default).at_) < 0)))||(decide (((x1.au.getD i4.2.1 default).at_)≥((x1.ah.length:Nat):Int))))
 (.fin (.inr (i4.1,i4.2.2)))
 (.r 8 ((ig x1.ah (x1.au.getD i4.2.1 default)).c) fun x6 =>
 .fz 100006 <|
 .r 9 (.al (.p (bA ((x1.au.getD i4.2.1 default).at_) x1.ah.length)) ((vk 70 i4.1 (x1.au.getD i4.2.1 default) ((x1.ah.getD (((x1.au.getD i4.2.1 default).at_).toNat) default).kind) (!x6)).c)) fun x7 =>
 .r 10 (.o [.pq (mkM dB)]) fun _ =>
 .bind true (fun b8=>∀ j,j < x7.2.length→AB b8.2 (x7.2.getD j default).af)
 (.loop (default:Sum (Sum (Sum (Sum ((List Claim) × (Int→Int)) ((List Claim) × (Int→Int))) ((List Claim) × Nat × (Int→Int))) ((List Claim) × (Int→Int))) (Int × (List (Int × Bool)))) (fun i9=>i9.1≤x7.2.length∧∀ j,j < i9.1→AB i9.2 (x7.2.getD j default).af) (fun i9=>x7.2.length - i9.1) ((0,([]:List (Int × Bool))):Nat × (List (Int × Bool)))
 (fun (i9:Nat × (List (Int × Bool)))=>⟨[(76,iv ((i9.1:Nat):Int))],[(73,ZJ dB i9.2)]⟩) fun i9 =>
 .lt 17 0 i9.1 x7.2.length
 (.r 13 (.p (bA ((i9.1:Nat):Int) x7.2.length)) fun _ =>
 .r 14 (.al (.t (A8 dB i9.2)) (.o [.pq (Wm dB i9.2 ((x7.2.getD i9.1 default).af) true)])) fun _ =>
 .r 15 .z fun _ =>
 .wi 76 (aq (((i9.1:Nat):Int)+1)) ((i9.1+1:Nat):Int) <|
 .fin (.inr (i9.1+1,mL i9.2 ((x7.2.getD i9.1 default).af) true)))
 (.fin (.inl (.inr (((i9.1:Nat):Int),i9.2)))))
 (fun (b8:Int × (List (Int × Bool)))=>⟨[(76,iv b8.1)],[(73,ZJ dB b8.2)]⟩) fun b8 =>
 .bind true (fun PK=>vZ ((x1.au.getD i4.2.1 default).sum) i4.2.2 b8.2 PK)
 (.mr b8.2.length (fun g11=>Real g11) (i4.2.2:(Int→Int))
 (fun g11 s13=>⟨[],[(30,.mx (Fh g11)),(85,.it 73 b8.2.length s13)]⟩)
 (fun g15=>⟨[],[(30,.mx (Fh g15))]⟩)
 (fun g11 i12 =>
 .HZ <|
 .r 18 (.p (i12 < b8.2.length)) fun _ =>
 .oq 30 (Fh g11) fun m14 =>
 .r 19 (.al (.al (.t (A8 dI m14)) (.o [.cast 94 (getM dI m14 ((b8.2.getD i12 default).1) (0:Int))])) (.al (.t (A8 dI m14)) (.o [.pq (Wm dI m14 ((b8.2.getD i12 default).1) (ch 1099511627776 (aq ((gp m14 ((b8.2.getD i12 default).1) (0:Int))+((x1.au.getD i4.2.1 default).sum)))))]))) fun _ =>
 .cq 30 (mL m14 ((b8.2.getD i12 default).1) (ch 1099511627776 (aq ((gp m14 ((b8.2.getD i12 default).1) (0:Int))+((x1.au.getD i4.2.1 default).sum))))) (Fh (Bc g11 ((b8.2.getD i12 default).1) (ch 1099511627776 (aq ((gp m14 ((b8.2.getD i12 default).1) (0:Int))+((x1.au.getD i4.2.1 default).sum)))))) <|
 .fin (Bc g11 ((b8.2.getD i12 default).1) (ch 1099511627776 (aq ((gp m14 ((b8.2.getD i12 default).1) (0:Int))+((x1.au.getD i4.2.1 default).sum)))))) fun g15 =>
 .H0 <|
 .fin (.inr g15))
 (fun (PK:(Int→Int))=>⟨[(85,.any)],[(30,.mx (Fh PK))]⟩) fun PK =>
 .fin (.inr (x7.1,PK))))
 (fun (b5:(List Claim) × (Int→Int))=>⟨[(11,ow 100008 b5.1)],[(100008,bg 50 9 Claim.cells b5.1),(30,.mx (Fh b5.2))]⟩) fun b5 =>
 .nx 21 34 i4.2.1 (b5.1,i4.2.1+1,b5.2))
 (.fin (.inl (.inr (i4.1,i4.2.2)))))
 (fun (b3:(List Claim) × (Int→Int))=>⟨[(11,ow 100004 b3.1)],[(100004,bg 50 9 Claim.cells b3.1),(30,.mx (Fh b3.2))]⟩) fun b3 =>
 .fin (b3.1,b3.2)
def nP r forum f day:=(oL r forum f day).val
theorem OQ (r:ai) (forum:Int) (f:ar) (day:Int):(oL r forum f day).cC (fun (x:(List Claim) × (Int→Int))=>nX (aB f day) (dt r forum f day) (aB f day).au.length x.1 x.2):=by
  refine Sk.aX _ ?_
  unfold oL
  simp only [Sk.cx,Sk.aI,reduceCtorEq,ON,kk,kp,tP,vk,bT,ig,maxLen]
  intro x1 Ea _ x2 Yt _
  refine ⟨⟨⟨Nat.zero_le _,nX.zero x1 x2⟩,fun i hi=>⟨fun hc=>⟨fun _=>⟨fun hs=>?_,fun hs x4 _ h4 x5 hx5 h5 _=>⟨⟨⟨Nat.zero_le _,fun j hj=>absurd hj (by omega)⟩,fun j hj=>⟨fun B6 _ _ _=>⟨⟨?_,fun q hq=>?_⟩,?_⟩,fun B6=>?_⟩⟩,fun b8 hb8=>⟨⟨hi.2.2.1,fun g q hg _ _=>⟨hg,fun m hm _=>Real.wK hg _ _⟩,fun g hg _=>?_⟩,fun PK _ Za=>?_⟩⟩⟩,fun b5 _ hb5 _=>?_⟩,fun hc=>?_⟩⟩,fun b3 Fb=>?_⟩
  all_goals try simp only [LN] at hc
  · exact hi.2.skip (by omega) (RE hs)
  · simp only [LN] at B6
    omega
  · simp only [LN] at B6
    rcases Nat.lt_succ_iff_lt_or_eq.1 hq with h | rfl
    · exact (hj.2 q h).more _ _
    · exact AB.put _ _ _
  · simp only [LN] at B6
    omega
  · simp only [LN] at B6
    have e:j.1=x5.2.length:=by omega
    rw [← e]
    exact hj.2
  · exact vZ.of hi.2.2.1 (fun g q hg=>by
      show Bc g _ (ch _ (aq (gp (canon (Fh g)) _ 0+_)))=wF _ g _
      rw [hg.get]
      rfl) hg
  · subst hx5
    exact hi.2.B8 (by omega) (QB hs) (HO (p:=fun s=>fy s (x1.au.getD i.2.1 default)) (fun s=>by show fy s _=true↔_; rw [pk,beq_iff_eq]) h4) h5 hb8 Za
  · exact ⟨⟨by omega,hb5⟩,by omega⟩
  · have e:i.2.1=x1.au.length:=by omega
    rw [← e]
    exact hi.2
  · subst Ea Yt
    exact Fb

theorem vS (r:ai) (forum:Int) (f:ar) (day:Int):(fun (x:(List Claim) × (Int→Int))=>nX (aB f day) (dt r forum f day) (aB f day).au.length x.1 x.2) (nP r forum f day):=have h:=Sk.cZ _ (OQ r forum f day); h
theorem QC (r:ai) (forum:Int) (f:ar) (day:Int) (hF:bX r f) (bm:f.Small) (bM:r.ca) (bh:r.Small) (gh:r.fW) (eS:r.c9):(oL r forum f day).aZ (fun _=>True):=by
  refine Sk.aU _ ?_
  unfold oL
  simp only [Sk.jb,Sk.aI,reduceCtorEq,ON,kk,kp,Sk.cC,tP,vk,bT,ig,maxLen]
  refine ⟨bm,fun x1 Ea hl=>⟨⟨hF,bm,bM,bh,gh,eS⟩,fun x2 Yt _=>⟨Ri,⟨Nat.zero_le _,nX.zero x1 x2⟩,fun i hi ZA=>⟨fun hc=>⟨⟨?_,fun _=>⟨fun hs=>?_,fun hs x4 _ h4=>⟨⟨?_,?_⟩,fun x5 hx5 h5 _=>⟨⟨⟨Nat.zero_le _,fun j hj=>absurd hj (by omega)⟩,fun j hj hm2=>⟨fun B6=>?_,fun B6=>?_⟩⟩,fun b8 hb8=>⟨⟨hi.2.2.1,fun g q hg hq=>⟨fun _=>⟨hg,fun m hm _=>Real.wK hg _ _⟩,hq,fun _ m hm=>⟨?_,fun _=>Rj hm _ _⟩⟩,fun g p q hg _ _ _=>?_,fun g hg _=>?_⟩,fun PK _ Za=>?_⟩⟩⟩⟩⟩,fun b5 _ hb5 _=>?_⟩,fun hc=>?_⟩⟩⟩⟩
  all_goals try simp only [LN] at hc
  · exact ⟨by omega,by omega⟩
  · exact hi.2.skip (by omega) (RE hs)
  · exact (QB hs).2
  · have h1:=hi.2.1.count.1
    have h2:x2.length≤67240:=by rw [Yt]; exact Ay hF
    have h3:=hF.2.1.2.2.2.1
    have h4:=Nat.mul_le_mul (show i.2.1≤100 by omega) h2
    omega
  · simp only [LN] at B6
    refine ⟨⟨by omega,by omega⟩,fun _ _ _=>⟨(aD (by omega) (by omega)).trans (by omega),⟨by omega,fun q hq=>?_⟩,by omega⟩⟩
    rcases Nat.lt_succ_iff_lt_or_eq.1 hq with h | rfl
    · exact (hj.2 q h).more _ _
    · exact AB.put _ _ _
  · simp only [LN] at B6
    have e:j.1=x5.2.length:=by omega
    rw [← e]
    exact hj.2
  · show Bc g _ (ch _ (aq (gp m _ 0+_)))=Bc g _ (ch _ (aq (gp (canon (Fh g)) _ 0+_)))
    rw [hm,hg.get]
  · have e:∀ g,Real g→∀ c:Int,Bc g c (ch 1099511627776 (aq (gp (canon (Fh g)) c 0+(x1.au.getD i.2.1 default).sum)))=wF (x1.au.getD i.2.1 default).sum g c:=fun g hg c=>by
      rw [hg.get]
      rfl
    have c:=S9 (x1.au.getD i.2.1 default).sum g (b8.2.getD q default).1 (b8.2.getD p default).1
    rw [← e g hg,← e g hg,← e _ (hg.wK _ _),← e _ (hg.wK _ _)] at c
    exact c
  · exact vZ.of hi.2.2.1 (fun g q hg=>by
      show Bc g _ (ch _ (aq (gp (canon (Fh g)) _ 0+_)))=wF _ g _
      rw [hg.get]
      rfl) hg
  · subst hx5
    exact hi.2.B8 (by omega) (QB hs) (HO (p:=fun s=>fy s (x1.au.getD i.2.1 default)) (fun s=>by show fy s _=true↔_; rw [pk,beq_iff_eq]) h4) h5 hb8 Za
  · exact ⟨(aD (by omega) (by omega)).trans (by omega),⟨by omega,hb5⟩,by omega⟩
  · have e:i.2.1=x1.au.length:=by omega
    rw [← e]
    exact hi.2

theorem OS (r:ai) (forum:Int) (f:ar) (day:Int) (hF:bX r f) (bm:f.Small) (bM:r.ca) (bh:r.Small) (gh:r.fW) (eS:r.c9):fA Tryz.prog 18 [av r.cells,iv forum,av f.cells,iv day] [] (.eD [ow 777777 (nP r forum f day).1,.sj 777778]) [(777777,bg 50 9 Claim.cells (nP r forum f day).1),(777778,.mx (Fh (nP r forum f day).2))] :=
  fA.sk tok mixed (fun x=>.eD [ow 777777 x.1,.sj 777778]) (fun x=>[(777777,bg 50 9 Claim.cells x.1),(777778,.mx (Fh x.2))]) Tryz.func18 rfl (by kernel_rfl) 3000 (oL r forum f day) (by kernel_rfl) (QC r forum f day hF bm bM bh gh eS)
def oM (r:ai) (forum:Int) (f:ar) (day:Int):gW ((List Claim) × (Int→Int)):=⟨Tryz.prog,18,[av r.cells,iv forum,av f.cells,iv day],fun x=>.eD [ow 777777 x.1,.sj 777778],fun x=>[(777777,bg 50 9 Claim.cells x.1),(777778,.mx (Fh x.2))],nP r forum f day,(bX r f)∧(f.Small)∧(r.ca)∧(r.Small)∧(r.fW)∧(r.c9),fun h=>OS r forum f day h.1 h.2.1 h.2.2.1 h.2.2.2.1 h.2.2.2.2.1 h.2.2.2.2.2,fun (x:(List Claim) × (Int→Int))=>nX (aB f day) (dt r forum f day) (aB f day).au.length x.1 x.2,vS r forum f day⟩
def iB (s:aA) (v:Claim):Sk (Bool) :=
 .fin (s.af == v.af)
def eT s v:=(iB s v).val
theorem ed (s:aA) (v:Claim):eT s v=(s.af == v.af):=rfl
theorem zi (s:aA) (v:Claim):(iB s v).aZ (fun _=>True):=by
  unfold iB
  exact mO

def mj s v:=kk tok mixed Tryz.func20 [av s.cells,.ref v.cells] (fun x=>bv x) true (iB s v) (eT s v) (u0 (zi s v))
def dX (s:List aA) (v:Claim):Sk (Int) :=
 .bind true (fun b1=>∀ q,q < s.length→eT (s.getD q default) v=false)
 (.loop (default:Sum (Int) (Unit)) (fun i2=>∀ q,q < i2→eT (s.getD q default) v=false) (fun i2=>s.length - i2) (0:Nat)
 (fun (i2:Nat)=>⟨[(8,iv ((i2:Nat):Int))],[]⟩) fun i2 =>
 .lt 0 0 i2 s.length
 (.r 4 (.al (.p (bA ((i2:Nat):Int) s.length)) ((mj (s.getD i2 default) v).c)) fun x3 =>
 .br x3
 (.fin (.inl (.inl ((i2:Nat):Int))))
 (.nx 6 8 i2 (i2+1)))
 (.fin (.inl (.inr ()))))
 (fun (_:Unit)=>⟨[],[]⟩) fun _ =>
 .fin (-1)
def zk s v:=(dX s v).val
theorem uR (s:List aA) (v:Claim):(dX s v).cC (fun (x:Int)=>(x = -1∧∀ q,q < s.length→eT (s.getD q default) v=false)∨(0≤x∧x < s.length∧eT (s.getD x.toNat default) v=true∧∀ q,(q:Nat) < x.toNat→eT (s.getD q default) v=false)):=by
  unfold dX
  try simp only [mj,ed]
  exact O3

theorem vT (s:List aA) (v:Claim):(dX s v).aZ (fun _=>True):=by
  unfold dX
  try simp only [mj,ed]
  exact wx

def jO s v:=kp tok mixed Tryz.func19 [lv aA.cells s,.fn 20 [.ref v.cells]] (fun x=>iv x) true (zk s v) (u0 (vT s v)) (uR s v)
end
end Go.Proofs.YtgmnlkccjlnnbaaGreatDoor
