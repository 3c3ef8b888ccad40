/- Functions, as sketches. -/
import Derived.Test.YtgmnlkccjlnnbaaGreatDoorLg
set_option linter.unusedSimpArgs false
set_option linter.unusedVariables false
set_option maxHeartbeats 1000000
set_option maxRecDepth 100000
namespace Go.Proofs.YtgmnlkccjlnnbaaGreatDoor
noncomputable section
open Go Go.Av
/-- half a Qo: Ol ade in two aa0,Ol first one Z4; a digit follows -/
def HY (y1 y0 u d:Int):Prop:=(2147483648≤y1∧y1 < 4294967296)∧(0≤y0∧y0 < 4294967296)∧(0≤u∧u < y1 * 4294967296+y0)∧0≤d∧d < 4294967296
/-- a quotient VH may be too Z4 -/
def HI (y1 y0 u d q r:Int):Prop:=(0≤q∧q < 18446744073709551616)∧q * y1+r=u∧(0≤r∧r < 4294967296)∧u * 4294967296+d < 4294967296 * (q * y1)+4294967296 * y1+q * y0+y0
/-- Ol quotient -/
def HQ (y1 y0 u d q:Int):Prop:=(0≤q∧q < 4294967296)∧4294967296 * (q * y1)+q * y0≤u * 4294967296+d∧u * 4294967296+d < 4294967296 * (q * y1)+4294967296 * y1+q * y0+y0
theorem Ak {y1 y0 u d:Int} (h:HY y1 y0 u d):HI y1 y0 u d (IntKind.u64.wrap (u.tdiv y1)) (IntKind.u64.wrap (u - IntKind.u64.wrap (IntKind.u64.wrap (u.tdiv y1) * y1))):=by
  obtain ⟨h1,h2,h3,h4⟩:=h
  have e:u.tdiv y1=u / y1:=Int.tdiv_eq_ediv_of_nonneg h3.1
  have q0:0≤u / y1:=Int.ediv_nonneg h3.1 (by omega)
  have q1:u / y1≤u:=Int.ediv_le_self _ h3.1
  have m1:=Int.mul_ediv_add_emod u y1
  have m2:=Int.emod_nonneg u (b:=y1) (by omega)
  have m3:=Int.emod_lt_of_pos u (b:=y1) (by omega)
  rw [e,dA q0 (by omega)]
  rw [Int.mul_comm y1] at m1
  rw [dA (n:=u / y1 * y1) (Int.mul_nonneg q0 (by omega)) (by omega),dA (by omega) (by omega)]
  have:=Int.mul_nonneg q0 h2.1
  refine ⟨⟨q0,by omega⟩,by omega,⟨by omega,by omega⟩,by omega⟩
theorem LJ {y1 y0 u d q r:Int} (h:HY y1 y0 u d) (hi:HI y1 y0 u d q r):(decide (q≥4294967296)||decide (IntKind.u64.wrap (q * y0) > IntKind.u64.wrap (IntKind.u64.wrap (4294967296 * r)+d)))=decide (q≥4294967296∨q * y0 > 4294967296 * r+d):=by
  obtain ⟨h1,h2,h3,h4⟩:=h
  obtain ⟨i1,i2,i3,i4⟩:=hi
  rw [dA (n:=4294967296 * r) (by omega) (by omega),dA (n:=4294967296 * r+d) (by omega) (by omega)]
  by_cases c:q≥4294967296
  · simp [c]
  · have a:q * y0≤4294967295 * y0:=Int.mul_le_mul_of_nonneg_right (by omega) h2.1
    rw [dA (n:=q * y0) (Int.mul_nonneg i1.1 h2.1) (by omega)]
    simp [c]
theorem Al {y1 y0 u d q r:Int} (h:HY y1 y0 u d) (hi:HI y1 y0 u d q r) (hc:(decide (q≥4294967296)||decide (IntKind.u64.wrap (q * y0) > IntKind.u64.wrap (IntKind.u64.wrap (4294967296 * r)+d)))=true) :
    (IntKind.u64.wrap (q - 1)).toNat < q.toNat∧(IntKind.u64.wrap (r+y1)≥4294967296→HQ y1 y0 u d (IntKind.u64.wrap (q - 1)))∧(IntKind.u64.wrap (r+y1) < 4294967296→HI y1 y0 u d (IntKind.u64.wrap (q - 1)) (IntKind.u64.wrap (r+y1))):=by
  rw [LJ h hi,decide_eq_true_eq] at hc
  obtain ⟨h1,h2,h3,h4⟩:=h
  obtain ⟨i1,i2,i3,i4⟩:=hi
  have hy:u * 4294967296+d < 4294967296 * (q * y1)+q * y0:=by
    rcases hc with c | c
    · have a:4294967296 * y1≤q * y1:=Int.mul_le_mul_of_nonneg_right c (by omega)
      have b:4294967296 * y0≤q * y0:=Int.mul_le_mul_of_nonneg_right c h2.1
      omega
    · omega
  have hq:1≤q:=by
    rcases Int.lt_or_le q 1 with c | c
    · obtain rfl:q=0:=by omega
      simp only [Int.zero_mul] at hy i2
      omega
    · exact c
  have e1:(q - 1) * y1=q * y1 - y1:=by rw [Int.sub_mul,Int.one_mul]
  have e0:(q - 1) * y0=q * y0 - y0:=by rw [Int.sub_mul,Int.one_mul]
  rw [dA (n:=q - 1) (by omega) (by omega),dA (n:=r+y1) (by omega) (by omega)]
  refine ⟨by omega,fun hr=>?_,fun hr=>?_⟩
  · have hB:q - 1 < 4294967296:=by
      rcases Int.lt_or_le (q - 1) 4294967296 with c | c
      · exact c
      · have a:4294967296 * y1≤(q - 1) * y1:=Int.mul_le_mul_of_nonneg_right c (by omega)
        omega
    have a:(q - 1) * y0≤4294967295 * y0:=Int.mul_le_mul_of_nonneg_right (by omega) h2.1
    refine ⟨⟨by omega,hB⟩,?_,?_⟩
    · rw [e1]; omega
    · rw [e1,e0]; omega
  · refine ⟨⟨by omega,by omega⟩,by rw [e1]; omega,⟨by omega,hr⟩,by rw [e1,e0]; omega⟩
theorem Am {y1 y0 u d q r:Int} (h:HY y1 y0 u d) (hi:HI y1 y0 u d q r) (hc:(decide (q≥4294967296)||decide (IntKind.u64.wrap (q * y0) > IntKind.u64.wrap (IntKind.u64.wrap (4294967296 * r)+d)))=false):HQ y1 y0 u d q:=by
  rw [LJ h hi,decide_eq_false_iff_not] at hc
  obtain ⟨i1,i2,i3,i4⟩:=hi
  exact ⟨by omega,by omega,i4⟩
/-- Z9 is left -/
theorem wF {y1 y0 u d q:Int} (h:HY y1 y0 u d) (hq:HQ y1 y0 u d q):IntKind.u64.wrap (IntKind.u64.wrap (IntKind.u64.wrap (u * 4294967296)+d) - IntKind.u64.wrap (q * (y1 * 4294967296+y0)))=u * 4294967296+d - q * (y1 * 4294967296+y0)∧0≤u * 4294967296+d - q * (y1 * 4294967296+y0)∧u * 4294967296+d - q * (y1 * 4294967296+y0) < y1 * 4294967296+y0:=by
  obtain ⟨h1,h2,h3,h4⟩:=h
  obtain ⟨i1,i2,i3⟩:=hq
  have e:q * (y1 * 4294967296+y0)=4294967296 * (q * y1)+q * y0:=by rw [Int.mul_add,← Int.mul_assoc,Int.mul_comm (q * y1)]
  refine ⟨?_,by omega,by omega⟩
  simp only [HO]
  omega
theorem aa1 {k:Nat} {q b:Int} (hq:0≤q) (hb:0≤b) (wN:b < 2 ^ k) (ha:q * 2 ^ k+b < 18446744073709551616):RU .u64 (q * 2 ^ k) b=q * 2 ^ k+b:=by
  obtain ⟨q,rfl⟩:=Int.eq_ofNat_of_zero_le hq
  obtain ⟨b,rfl⟩:=Int.eq_ofNat_of_zero_le hb
  have e:((q:Int) * 2 ^ k)=((q * 2 ^ k:Nat):Int):=by simp
  have JS:b < 2 ^ k:=by
    have e2:((2:Int) ^ k)=((2 ^ k:Nat):Int):=by simp
    rw [e2] at wN
    exact_mod_cast wN
  rw [e] at ha ⊢
  unfold RU
  have eC:q * 2 ^ k+b < 18446744073709551616:=by omega
  have h1:(BitVec.ofInt IntKind.u64.bits ((q * 2 ^ k:Nat):Int) ||| BitVec.ofInt IntKind.u64.bits ((b:Nat):Int)).toNat=q * 2 ^ k+b:=by
    rw [BitVec.toNat_or,BitVec.ofInt_natCast,BitVec.ofInt_natCast,BitVec.toNat_ofNat,BitVec.toNat_ofNat]
    have hb:IntKind.u64.bits=64:=rfl
    rw [hb,Nat.mod_eq_of_lt (by omega),Nat.mod_eq_of_lt (by omega),← Nat.shiftLeft_eq,← Nat.shiftLeft_add_eq_or_of_lt JS,Nat.shiftLeft_eq]
  rw [h1,dA (by omega) (by omega)]
  omega
theorem GQ {a:Int} (h0:0≤a) (h1:a < 18446744073709551616):dP .u64 a 4294967295=a % 4294967296:=by
  obtain ⟨a,rfl⟩:=Int.eq_ofNat_of_zero_le h0
  unfold dP
  have h2:(BitVec.ofInt IntKind.u64.bits ((a:Nat):Int) &&& BitVec.ofInt IntKind.u64.bits 4294967295).toNat=a % 4294967296:=by
    have e:(4294967295:Int)=((4294967295:Nat):Int):=rfl
    rw [e,BitVec.toNat_and,BitVec.ofInt_natCast,BitVec.ofInt_natCast,BitVec.toNat_ofNat,BitVec.toNat_ofNat]
    have hb:IntKind.u64.bits=64:=rfl
    rw [hb,Nat.mod_eq_of_lt (by omega),Nat.mod_eq_of_lt (by omega)]
    exact Nat.and_two_pow_sub_one_eq_mod a 32
  rw [h2,dA (by omega) (by omega)]
  omega
/-- Ol parts of a Qo,made Z4 -/
theorem LK {hi lo y s:Int} (hy:0≤hi∧hi < y∧y < 18446744073709551616∧0≤lo∧lo < 18446744073709551616) (hs:0≤s∧s≤63∧9223372036854775808≤y * 2 ^ s.toNat∧y * 2 ^ s.toNat < 18446744073709551616) :
    ∃ U L:Int,RU .u64 (eW .u64 hi (IntKind.u64.wrap s)) (dz .u64 lo (IntKind.u64.wrap ((64:Int) - IntKind.u64.wrap s)))=U∧eW .u64 lo (IntKind.u64.wrap s)=L∧eW .u64 y (IntKind.u64.wrap s)=y * 2 ^ s.toNat ∧
      (0≤L∧L < 18446744073709551616)∧(0≤U∧U < y * 2 ^ s.toNat)∧(hi * 18446744073709551616+lo) * 2 ^ s.toNat=U * 18446744073709551616+L:=by
  obtain ⟨h1,h2,h3,h4,h5⟩:=hy
  obtain ⟨s1,s2,s3,s4⟩:=hs
  have ew:IntKind.u64.wrap s=s:=dA s1 (by omega)
  have ew2:IntKind.u64.wrap (64 - s)=64 - s:=dA (by omega) (by omega)
  rw [ew,ew2,RV (by omega),RV (by omega),RV (by omega),D2 .u64 (b:=64 - s) (by show 0≤64 - s∧64 - s≤64; omega)]
  generalize hp:(2:Int) ^ s.toNat=p at *
  have hP:(18446744073709551616:Int)=2 ^ (64 - s).toNat * p:=by rw [← hp,← Int.pow_add,show (64 - s).toNat+s.toNat=64 by omega]; rfl
  generalize hq:(2:Int) ^ (64 - s).toNat=P at *
  have p0:0 < p:=by rw [← hp]; exact Int.pow_pos (by omega)
  have P0:0 < P:=by rw [← hq]; exact Int.pow_pos (by omega)
  have hip:hi * p≤(y - 1) * p:=Int.mul_le_mul_of_nonneg_right (by omega) (by omega)
  have aeu:0≤hi * p:=Int.mul_nonneg h1 (by omega)
  have e1:(y - 1) * p=y * p - p:=by rw [Int.sub_mul,Int.one_mul]
  have b0:0≤lo / P:=Int.ediv_nonneg h4 (by omega)
  have b1:lo / P < p:=by
    rw [Int.ediv_lt_iff_lt_mul P0,Int.mul_comm]
    omega
  have eh:hi * p % 18446744073709551616=hi * p:=Int.emod_eq_of_lt aeu (by omega)
  have ey:y * p % 18446744073709551616=y * p:=Int.emod_eq_of_lt (by omega) s4
  have el:lo * p / 18446744073709551616=lo / P:=by rw [hP]; exact Int.mul_ediv_mul_of_pos_left _ _ p0
  have hor:RU .u64 (hi * p) (lo / P)=hi * p+lo / P:=by
    rw [← hp]
    exact aa1 h1 b0 (by rw [hp]; exact b1) (by rw [hp]; omega)
  refine ⟨hi * p+lo / P,lo * p % 18446744073709551616,by rw [eh]; exact hor,rfl,ey,⟨by omega,by omega⟩,⟨by omega,by omega⟩,?_⟩
  have m:=Int.mul_ediv_add_emod (lo * p) 18446744073709551616
  rw [el] at m
  have e2:(hi * 18446744073709551616+lo) * p=hi * p * 18446744073709551616+lo * p:=by rw [Int.add_mul,Int.mul_right_comm]
  rw [e2]
  omega
/-- Ol whole Qo out of its aa0 -/
theorem U8 {N y p U L q1 q0:Int} (hy:0 < y) (hp:0 < p) (hY:9223372036854775808≤y * p∧y * p < 18446744073709551616) (hL:0≤L∧L < 18446744073709551616) (hU:0≤U∧U < y * p) (hN:N * p=U * 18446744073709551616+L)
    (h1:HQ (y * p / 4294967296) (y * p % 4294967296) U (L / 4294967296) q1)
    (h0:HQ (y * p / 4294967296) (y * p % 4294967296) (U * 4294967296+L / 4294967296 - q1 * (y * p)) (L % 4294967296) q0) :
    IntKind.u64.wrap (IntKind.u64.wrap (q1 * 4294967296)+q0)=N / y ∧
      ((U * 4294967296+L / 4294967296 - q1 * (y * p)) * 4294967296+L % 4294967296 - q0 * (y * p)) / p=N % y:=by
  have eY:y * p / 4294967296 * 4294967296+y * p % 4294967296=y * p:=by omega
  have TN:HY (y * p / 4294967296) (y * p % 4294967296) U (L / 4294967296):=⟨⟨by omega,by omega⟩,⟨by omega,by omega⟩,⟨by omega,by omega⟩,by omega,by omega⟩
  have r1:=wF TN h1
  rw [eY] at r1
  have Rn:HY (y * p / 4294967296) (y * p % 4294967296) (U * 4294967296+L / 4294967296 - q1 * (y * p)) (L % 4294967296):=⟨⟨by omega,by omega⟩,⟨by omega,by omega⟩,⟨by omega,by omega⟩,by omega,by omega⟩
  have r0:=wF Rn h0
  rw [eY] at r0
  have i1:=h1.1
  have i0:=h0.1
  rw [dA (n:=q1 * 4294967296) (by omega) (by omega),dA (by omega) (by omega)]
  generalize hR:(U * 4294967296+L / 4294967296 - q1 * (y * p)) * 4294967296+L % 4294967296 - q0 * (y * p)=R at *
  have e:(q1 * 4294967296+q0) * (y * p)=q1 * (y * p) * 4294967296+q0 * (y * p):=by rw [Int.add_mul,Int.mul_right_comm]
  have hq:N * p=(q1 * 4294967296+q0) * (y * p)+R:=by rw [e]; omega
  have hR2:R=(N - (q1 * 4294967296+q0) * y) * p:=by rw [Int.sub_mul,Int.mul_assoc]; omega
  have J3:0≤N - (q1 * 4294967296+q0) * y:=by
    rcases Int.lt_or_le (N - (q1 * 4294967296+q0) * y) 0 with c | c
    · have:=Int.mul_neg_of_neg_of_pos c hp
      omega
    · exact c
  have eC:N - (q1 * 4294967296+q0) * y < y:=by
    rcases Int.lt_or_le (N - (q1 * 4294967296+q0) * y) y with c | c
    · exact c
    · have:=Int.mul_le_mul_of_nonneg_right c (Int.le_of_lt hp)
      omega
  have hd:N / y=q1 * 4294967296+q0:=by
    rw [Int.ediv_eq_iff_of_pos hy]
    constructor
    · omega
    · omega
  refine ⟨hd.symm,?_⟩
  rw [hR2,Int.mul_ediv_cancel _ (by omega),Int.emod_def,hd,Int.mul_comm y]
def k7 (hi:Int) (lo:Int) (y:Int):Sk (Int × Int) :=
 .bind false (fun _=>True)
 (.br (y == 0)
 (.dead default)
 (.fin (.inr ())))
 (fun (_:Unit)=>⟨[],[]⟩) fun _ =>
 .bind false (fun _=>True)
 (.br (decide (y≤hi))
 (.dead default)
 (.fin (.inr ())))
 (fun (_:Unit)=>⟨[],[]⟩) fun _ =>
 .br (hi == 0)
 (.r 6 (.aq (.p (y≠0)) (.p (y≠0))) fun _ =>
 .fin (IntKind.u64.wrap (lo.tdiv y),lo.tmod y))
 (.r 7 ((lj y).c) fun x3 =>
 .r 8 (.p (0≤(IntKind.u64.wrap (x3)))) fun _ =>
 .r 9 (.p (0≤(32:Int))) fun _ =>
 .r 11 (.aq (.p (0≤(IntKind.u64.wrap (x3)))) (.p (0≤(IntKind.u64.wrap ((64:Int) - (IntKind.u64.wrap (x3))))))) fun _ =>
 .r 12 (.p (0≤(IntKind.u64.wrap (x3)))) fun _ =>
 .r 13 (.p (0≤(32:Int))) fun _ =>
 .r 15 (.p ((dz .u64 (eW .u64 y (IntKind.u64.wrap (x3))) 32)≠0)) fun _ =>
 .bind true (fun b4=>HQ (dz .u64 (eW .u64 y (IntKind.u64.wrap (x3))) 32) (dP .u64 (eW .u64 y (IntKind.u64.wrap (x3))) 4294967295) (RU .u64 (eW .u64 hi (IntKind.u64.wrap (x3))) (dz .u64 lo (IntKind.u64.wrap ((64:Int) - (IntKind.u64.wrap (x3)))))) (dz .u64 (eW .u64 lo (IntKind.u64.wrap (x3))) 32) b4.1)
 (.loop (default:Sum (Int × Int) (Int × Int)) (fun i5=>HI (dz .u64 (eW .u64 y (IntKind.u64.wrap (x3))) 32) (dP .u64 (eW .u64 y (IntKind.u64.wrap (x3))) 4294967295) (RU .u64 (eW .u64 hi (IntKind.u64.wrap (x3))) (dz .u64 lo (IntKind.u64.wrap ((64:Int) - (IntKind.u64.wrap (x3)))))) (dz .u64 (eW .u64 lo (IntKind.u64.wrap (x3))) 32) i5.1 i5.2) (fun i5=>i5.1.toNat) ((IntKind.u64.wrap ((RU .u64 (eW .u64 hi (IntKind.u64.wrap (x3))) (dz .u64 lo (IntKind.u64.wrap ((64:Int) - (IntKind.u64.wrap (x3)))))).tdiv (dz .u64 (eW .u64 y (IntKind.u64.wrap (x3))) 32)),IntKind.u64.wrap ((RU .u64 (eW .u64 hi (IntKind.u64.wrap (x3))) (dz .u64 lo (IntKind.u64.wrap ((64:Int) - (IntKind.u64.wrap (x3)))))) - (IntKind.u64.wrap ((IntKind.u64.wrap ((RU .u64 (eW .u64 hi (IntKind.u64.wrap (x3))) (dz .u64 lo (IntKind.u64.wrap ((64:Int) - (IntKind.u64.wrap (x3)))))).tdiv (dz .u64 (eW .u64 y (IntKind.u64.wrap (x3))) 32))) * (dz .u64 (eW .u64 y (IntKind.u64.wrap (x3))) 32))))):Int × Int)
 (fun (i5:Int × Int)=>⟨[(15,.d (.v (.int .u64 i5.1))),(16,.d (.v (.int .u64 i5.2)))],[]⟩) fun i5 =>
 .br ((decide (i5.1≥4294967296))||(decide ((IntKind.u64.wrap (i5.1 * (dP .u64 (eW .u64 y (IntKind.u64.wrap (x3))) 4294967295))) > (IntKind.u64.wrap ((IntKind.u64.wrap ((4294967296:Int) * i5.2))+(dz .u64 (eW .u64 lo (IntKind.u64.wrap (x3))) 32))))))
 (.br (decide ((IntKind.u64.wrap (i5.2+(dz .u64 (eW .u64 y (IntKind.u64.wrap (x3))) 32)))≥4294967296))
 (.fin (.inl (.inr (IntKind.u64.wrap (i5.1 - 1),IntKind.u64.wrap (i5.2+(dz .u64 (eW .u64 y (IntKind.u64.wrap (x3))) 32))))))
 (.fin (.inr (IntKind.u64.wrap (i5.1 - 1),IntKind.u64.wrap (i5.2+(dz .u64 (eW .u64 y (IntKind.u64.wrap (x3))) 32))))))
 (.fin (.inl (.inr (i5.1,i5.2)))))
 (fun (b4:Int × Int)=>⟨[(15,.d (.v (.int .u64 b4.1))),(16,.d (.v (.int .u64 b4.2)))],[]⟩) fun b4 =>
 .r 22 (.p ((dz .u64 (eW .u64 y (IntKind.u64.wrap (x3))) 32)≠0)) fun _ =>
 .bind true (fun b6=>HQ (dz .u64 (eW .u64 y (IntKind.u64.wrap (x3))) 32) (dP .u64 (eW .u64 y (IntKind.u64.wrap (x3))) 4294967295) (IntKind.u64.wrap ((IntKind.u64.wrap ((IntKind.u64.wrap ((RU .u64 (eW .u64 hi (IntKind.u64.wrap (x3))) (dz .u64 lo (IntKind.u64.wrap ((64:Int) - (IntKind.u64.wrap (x3)))))) * 4294967296))+(dz .u64 (eW .u64 lo (IntKind.u64.wrap (x3))) 32))) - (IntKind.u64.wrap (b4.1 * (eW .u64 y (IntKind.u64.wrap (x3))))))) (dP .u64 (eW .u64 lo (IntKind.u64.wrap (x3))) 4294967295) b6)
 (.loop (default:Sum (Int × Int) (Int)) (fun i7=>HI (dz .u64 (eW .u64 y (IntKind.u64.wrap (x3))) 32) (dP .u64 (eW .u64 y (IntKind.u64.wrap (x3))) 4294967295) (IntKind.u64.wrap ((IntKind.u64.wrap ((IntKind.u64.wrap ((RU .u64 (eW .u64 hi (IntKind.u64.wrap (x3))) (dz .u64 lo (IntKind.u64.wrap ((64:Int) - (IntKind.u64.wrap (x3)))))) * 4294967296))+(dz .u64 (eW .u64 lo (IntKind.u64.wrap (x3))) 32))) - (IntKind.u64.wrap (b4.1 * (eW .u64 y (IntKind.u64.wrap (x3))))))) (dP .u64 (eW .u64 lo (IntKind.u64.wrap (x3))) 4294967295) i7.2 i7.1) (fun i7=>i7.2.toNat) ((IntKind.u64.wrap ((IntKind.u64.wrap ((IntKind.u64.wrap ((IntKind.u64.wrap ((RU .u64 (eW .u64 hi (IntKind.u64.wrap (x3))) (dz .u64 lo (IntKind.u64.wrap ((64:Int) - (IntKind.u64.wrap (x3)))))) * 4294967296))+(dz .u64 (eW .u64 lo (IntKind.u64.wrap (x3))) 32))) - (IntKind.u64.wrap (b4.1 * (eW .u64 y (IntKind.u64.wrap (x3))))))) - (IntKind.u64.wrap ((IntKind.u64.wrap ((IntKind.u64.wrap ((IntKind.u64.wrap ((IntKind.u64.wrap ((RU .u64 (eW .u64 hi (IntKind.u64.wrap (x3))) (dz .u64 lo (IntKind.u64.wrap ((64:Int) - (IntKind.u64.wrap (x3)))))) * 4294967296))+(dz .u64 (eW .u64 lo (IntKind.u64.wrap (x3))) 32))) - (IntKind.u64.wrap (b4.1 * (eW .u64 y (IntKind.u64.wrap (x3))))))).tdiv (dz .u64 (eW .u64 y (IntKind.u64.wrap (x3))) 32))) * (dz .u64 (eW .u64 y (IntKind.u64.wrap (x3))) 32)))),IntKind.u64.wrap ((IntKind.u64.wrap ((IntKind.u64.wrap ((IntKind.u64.wrap ((RU .u64 (eW .u64 hi (IntKind.u64.wrap (x3))) (dz .u64 lo (IntKind.u64.wrap ((64:Int) - (IntKind.u64.wrap (x3)))))) * 4294967296))+(dz .u64 (eW .u64 lo (IntKind.u64.wrap (x3))) 32))) - (IntKind.u64.wrap (b4.1 * (eW .u64 y (IntKind.u64.wrap (x3))))))).tdiv (dz .u64 (eW .u64 y (IntKind.u64.wrap (x3))) 32))):Int × Int)
 (fun (i7:Int × Int)=>⟨[(16,.d (.v (.int .u64 i7.1))),(18,.d (.v (.int .u64 i7.2)))],[]⟩) fun i7 =>
 .br ((decide (i7.2≥4294967296))||(decide ((IntKind.u64.wrap (i7.2 * (dP .u64 (eW .u64 y (IntKind.u64.wrap (x3))) 4294967295))) > (IntKind.u64.wrap ((IntKind.u64.wrap ((4294967296:Int) * i7.1))+(dP .u64 (eW .u64 lo (IntKind.u64.wrap (x3))) 4294967295))))))
 (.br (decide ((IntKind.u64.wrap (i7.1+(dz .u64 (eW .u64 y (IntKind.u64.wrap (x3))) 32)))≥4294967296))
 (.fin (.inl (.inr (IntKind.u64.wrap (i7.2 - 1)))))
 (.fin (.inr (IntKind.u64.wrap (i7.1+(dz .u64 (eW .u64 y (IntKind.u64.wrap (x3))) 32)),IntKind.u64.wrap (i7.2 - 1)))))
 (.fin (.inl (.inr i7.2))))
 (fun (b6:Int)=>⟨[(18,.d (.v (.int .u64 b6)))],[]⟩) fun b6 =>
 .r 28 (.p (0≤(IntKind.u64.wrap (x3)))) fun _ =>
 .fin (IntKind.u64.wrap ((IntKind.u64.wrap (b4.1 * 4294967296))+b6),dz .u64 (IntKind.u64.wrap ((IntKind.u64.wrap ((IntKind.u64.wrap ((IntKind.u64.wrap ((IntKind.u64.wrap ((IntKind.u64.wrap ((RU .u64 (eW .u64 hi (IntKind.u64.wrap (x3))) (dz .u64 lo (IntKind.u64.wrap ((64:Int) - (IntKind.u64.wrap (x3)))))) * 4294967296))+(dz .u64 (eW .u64 lo (IntKind.u64.wrap (x3))) 32))) - (IntKind.u64.wrap (b4.1 * (eW .u64 y (IntKind.u64.wrap (x3))))))) * 4294967296))+(dP .u64 (eW .u64 lo (IntKind.u64.wrap (x3))) 4294967295))) - (IntKind.u64.wrap (b6 * (eW .u64 y (IntKind.u64.wrap (x3))))))) (IntKind.u64.wrap (x3))))
def uk hi lo y:=(k7 hi lo y).val
theorem Jf (hi:Int) (lo:Int) (y:Int) (hP:0≤hi∧hi < y∧y < 18446744073709551616∧0≤lo∧lo < 18446744073709551616):(k7 hi lo y).cZ (fun (x:Int × Int)=>x.1=(hi * 18446744073709551616+lo) / y∧x.2=(hi * 18446744073709551616+lo) % y):=by
  refine Sk.bp _ ?_
  unfold k7
  simp only [Sk.cV,Sk.aO,reduceCtorEq,ON,kk,kp,lj,maxLen]
  refine ⟨fun h=>by simp only [LN] at h; omega,fun _ _=>⟨fun h=>by simp only [LN] at h; omega,fun _ _=>⟨fun h0 _=>?_,fun _ x _ hx=>?_⟩⟩⟩
  · simp only [LN] at h0
    subst h0
    have e:=Int.tdiv_eq_ediv_of_nonneg (a:=lo) (b:=y) hP.2.2.2.1
    have e2:=Int.tmod_eq_emod_of_nonneg (a:=lo) (b:=y) hP.2.2.2.1
    have q0:0≤lo / y:=Int.ediv_nonneg hP.2.2.2.1 (by omega)
    have q1:lo / y≤lo:=Int.ediv_le_self _ hP.2.2.2.1
    rw [e,e2,dA q0 (by omega)]
    simp
  · have hx:=hx ⟨by omega,by omega⟩
    obtain ⟨U,L,eU,eL,eY,hL,hU,hN⟩:=LK hP hx
    simp only [eU,eL,eY,TQ]
    have hp:(0:Int) < 2 ^ x.toNat:=Int.pow_pos (by omega)
    have es:∀ a:Int,dz .u64 a (IntKind.u64.wrap x)=a / 2 ^ x.toNat:=fun a=>by
      rw [dA hx.1 (by omega)]
      exact D2 .u64 (b:=x) (by show 0≤x∧x≤64; omega)
    simp only [es]
    have hw:=fun q1 q0=>U8 (y:=y) (q1:=q1) (q0:=q0) (by omega) hp hx.2.2 hL hU hN
    generalize hYY:y * 2 ^ x.toNat=Y at *
    rw [GQ (by omega) hx.2.2.2,GQ hL.1 hL.2]
    have eY2:Y / 4294967296 * 4294967296+Y % 4294967296=Y:=by omega
    have TN:HY (Y / 4294967296) (Y % 4294967296) U (L / 4294967296):=⟨⟨by omega,by omega⟩,⟨by omega,by omega⟩,⟨by omega,by omega⟩,by omega,by omega⟩
    intro _ _ _ _ _ _
    refine ⟨⟨Ak TN,fun i hi=>⟨fun hc=>?_,fun hc=>Am TN hi hc⟩⟩,fun b hb=>?_⟩
    · have h:=Al TN hi hc
      exact ⟨fun h2=>h.2.1 (of_decide_eq_true h2),fun h2=>⟨h.2.2 (Int.not_le.1 (of_decide_eq_false h2)),h.1⟩⟩
    · have r1:=wF TN hb
      rw [eY2] at r1
      rw [r1.1]
      have Rn:HY (Y / 4294967296) (Y % 4294967296) (U * 4294967296+L / 4294967296 - b.1 * Y) (L % 4294967296):=⟨⟨by omega,by omega⟩,⟨by omega,by omega⟩,⟨by omega,by omega⟩,by omega,by omega⟩
      intro _
      refine ⟨⟨Ak Rn,fun i hi=>⟨fun hc=>?_,fun hc=>Am Rn hi hc⟩⟩,fun q hq=>?_⟩
      · have h:=Al Rn hi hc
        exact ⟨fun h2=>h.2.1 (of_decide_eq_true h2),fun h2=>⟨h.2.2 (Int.not_le.1 (of_decide_eq_false h2)),h.1⟩⟩
      · intro _
        have r0:=wF Rn hq
        rw [eY2] at r0
        rw [r0.1]
        exact hw _ _ hb hq

theorem sq (hi:Int) (lo:Int) (y:Int):(fun (x:Int × Int)=>(0≤hi∧hi < y∧y < 18446744073709551616∧0≤lo∧lo < 18446744073709551616)→(x.1=(hi * 18446744073709551616+lo) / y∧x.2=(hi * 18446744073709551616+lo) % y)) (uk hi lo y):=fun hP=>Sk.de _ (Jf hi lo y hP)
theorem KV (hi:Int) (lo:Int) (y:Int) (hy:0≤hi∧hi < y∧y < 18446744073709551616∧0≤lo∧lo < 18446744073709551616):(k7 hi lo y).bz (fun _=>True):=by
  refine Sk.aX _ ?_
  unfold k7
  simp only [Sk.kq,Sk.aO,reduceCtorEq,ON,kk,kp,lj,maxLen]
  refine ⟨fun h=>by simp only [LN] at h; omega,fun _ _=>⟨fun h=>by simp only [LN] at h; omega,fun _ _=>⟨fun _=>by omega,fun _=>⟨by omega,fun x _ hx=>?_⟩⟩⟩⟩
  have hx:=hx ⟨by omega,by omega⟩
  obtain ⟨U,L,eU,eL,eY,hL,hU,hN⟩:=LK hy hx
  simp only [eU,eL,eY,TQ]
  have hp:(0:Int) < 2 ^ x.toNat:=Int.pow_pos (by omega)
  generalize hYY:y * 2 ^ x.toNat=Y at *
  rw [GQ (by omega) hx.2.2.2,GQ hL.1 hL.2]
  have eY2:Y / 4294967296 * 4294967296+Y % 4294967296=Y:=by omega
  have hn:Y / 4294967296≠0:=by omega
  have TN:HY (Y / 4294967296) (Y % 4294967296) U (L / 4294967296):=⟨⟨by omega,by omega⟩,⟨by omega,by omega⟩,⟨by omega,by omega⟩,by omega,by omega⟩
  refine ⟨(jN _).1,fun _=>⟨by decide,fun _=>⟨⟨(jN _).1,(jN _).1⟩,fun _=>⟨(jN _).1,fun _=>⟨by decide,fun _=>⟨hn,fun _=>⟨⟨Ak TN,fun i hi=>⟨fun hc=>?_,fun hc=>Am TN hi hc⟩⟩,fun b hb=>⟨hn,fun _=>?_⟩⟩⟩⟩⟩⟩⟩⟩
  · have h:=Al TN hi hc
    exact ⟨fun h2=>h.2.1 (of_decide_eq_true h2),fun h2=>⟨h.2.2 (Int.not_le.1 (of_decide_eq_false h2)),h.1⟩⟩
  · have r1:=wF TN hb
    rw [eY2] at r1
    rw [r1.1]
    have Rn:HY (Y / 4294967296) (Y % 4294967296) (U * 4294967296+L / 4294967296 - b.1 * Y) (L % 4294967296):=⟨⟨by omega,by omega⟩,⟨by omega,by omega⟩,⟨by omega,by omega⟩,by omega,by omega⟩
    refine ⟨⟨Ak Rn,fun i hi=>⟨fun hc=>?_,fun hc=>Am Rn hi hc⟩⟩,fun q hq=>(jN _).1⟩
    have h:=Al Rn hi hc
    exact ⟨fun h2=>h.2.1 (of_decide_eq_true h2),fun h2=>⟨h.2.2 (Int.not_le.1 (of_decide_eq_false h2)),h.1⟩⟩

def mS hi lo y:=kk tok mixed Tryz.func166 [.d (.v (.int .u64 hi)),.d (.v (.int .u64 lo)),.d (.v (.int .u64 y))] (fun x=>.fL [.d (.v (.int .u64 x.1)),.d (.v (.int .u64 x.2))]) true (k7 hi lo y) (uk hi lo y) (KV hi lo y) (fun (x:Int × Int)=>(0≤hi∧hi < y∧y < 18446744073709551616∧0≤lo∧lo < 18446744073709551616)→(x.1=(hi * 18446744073709551616+lo) / y∧x.2=(hi * 18446744073709551616+lo) % y)) (sq hi lo y)
def k8 (a:Int) (b:Int) (c_:Int):Sk (Int × Int × Bool) :=
 .r 1 ((jh (IntKind.u64.wrap (a)) (IntKind.u64.wrap (b))).c) fun x1 =>
 .br (decide (x1.1≥(IntKind.u64.wrap (c_))))
 (.fin (0,0,false))
 (.r 4 ((mS x1.1 x1.2 (IntKind.u64.wrap (c_))).c) fun x2 =>
 .br (decide (x2.1 > 1099511627776))
 (.fin (0,0,false))
 (.fin (au (x2.1),au (x2.2),true)))
def l8 a b c_:=(k8 a b c_).val
theorem Jg (a:Int) (b:Int) (c_:Int) (hP:(0≤a∧a≤9223372036854775807)∧(0≤b∧b≤9223372036854775807)∧0 < c_∧c_≤9223372036854775807):(k8 a b c_).cZ (fun (x:Int × Int × Bool)=>x.2.2=true→(0≤x.1∧x.1≤1099511627776)∧x.1=a * b / c_∧x.2.1=a * b % c_):=by
  refine Sk.bp _ ?_
  unfold k8
  simp only [Sk.cV,Sk.aO,reduceCtorEq,ON,kk,kp,mS,jh,maxLen]
  obtain ⟨ha,hb,L7,DN⟩:=hP
  rw [dA (n:=a) ha.1 (by omega),dA (n:=b) hb.1 (by omega),dA (n:=c_) (by omega) (by omega)]
  intro x _ hx
  obtain ⟨x1,x2,x3⟩:=hx ⟨⟨ha.1,by omega⟩,hb.1,by omega⟩
  intro hc y _ hy hc3
  simp only [LN] at hc hc3
  have hy:=hy ⟨x1.1,by omega,by omega,x2.1,x2.2⟩
  rw [x3] at hy
  have q0:0≤a * b / c_:=Int.ediv_nonneg (Int.mul_nonneg ha.1 hb.1) (by omega)
  have m0:=Int.emod_nonneg (a * b) (b:=c_) (by omega)
  have m1:=Int.emod_lt_of_pos (a * b) (b:=c_) L7
  rw [aG (n:=y.1) (by omega) (by omega),aG (n:=y.2) (by omega) (by omega)]
  omega

theorem Gj (a:Int) (b:Int) (c_:Int):(fun (x:Int × Int × Bool)=>((0≤a∧a≤9223372036854775807)∧(0≤b∧b≤9223372036854775807)∧0 < c_∧c_≤9223372036854775807)→(x.2.2=true→(0≤x.1∧x.1≤1099511627776)∧x.1=a * b / c_∧x.2.1=a * b % c_)) (l8 a b c_):=fun hP=>Sk.de _ (Jg a b c_ hP)
theorem KW (a:Int) (b:Int) (c_:Int):(k8 a b c_).bz (fun _=>True):=by
  refine Sk.aX _ ?_
  unfold k8
  simp only [Sk.kq,Sk.aO,reduceCtorEq,ON,kk,kp,mS,jh,maxLen]
  intro x _ h hc
  simp only [LN] at hc
  obtain ⟨x1,x2,-⟩:=h ⟨jN _,jN _⟩
  exact ⟨x1.1,by omega,(jN _).2,x2.1,x2.2⟩

def xH a b c_:=kk tok mixed Tryz.func162 [iv a,iv b,iv c_] (fun x=>.fL [iv x.1,iv x.2.1,bv x.2.2]) true (k8 a b c_) (l8 a b c_) (u0 (KW a b c_)) (fun (x:Int × Int × Bool)=>((0≤a∧a≤9223372036854775807)∧(0≤b∧b≤9223372036854775807)∧0 < c_∧c_≤9223372036854775807)→(x.2.2=true→(0≤x.1∧x.1≤1099511627776)∧x.1=a * b / c_∧x.2.1=a * b % c_)) (Gj a b c_)
def jx (sum:Int) (gD:Int) (from_:Int) (cj:Int) (basis:Int):Sk (Int × Int) :=
 .r 1 (.dep ((kg sum 1099511627776).c) fun x1=>.dep (.wh (!x1) false ((kg gD 1000).c)) fun x2=>.dep (.wh ((!x1)||(!x2)) false ((kg from_ 100000).c)) fun x3=>.wh (((!x1)||(!x2))||(!x3)) false ((kg cj 100000).c)) fun p6 =>
 .br ((((((!p6.1)||(!p6.2.1))||(!p6.2.2.1))||(!p6.2.2.2))||(decide (cj < from_)))||((basis != 360)&&(basis != 365)))
 (.fin (0,1))
 (.r 3 ((xH sum (au (gD * (au (cj - from_)))) (au ((1000:Int) * basis))).c) fun x5 =>
 .br (!x5.2.2)
 (.fin (0,3))
 (.fin (x5.1,0)))
def pY sum gD from_ cj basis:=(jx sum gD from_ cj basis).val
theorem BU (sum:Int) (gD:Int) (from_:Int) (cj:Int) (basis:Int):(jx sum gD from_ cj basis).cZ (fun (x:Int × Int)=>0≤x.1∧x.1≤1099511627776):=by
  refine Sk.bp _ ?_
  unfold jx
  simp only [Sk.cV,Sk.aO,reduceCtorEq,ON,kk,kp,xH,kg,so,forall_eq,maxLen]
  refine ⟨fun _=>⟨by decide,by decide⟩,fun hc h=>⟨fun _=>⟨by decide,by decide⟩,fun DN=>?_⟩⟩
  simp only [LN] at hc DN
  have hp0:0≤gD * (cj - from_):=Int.mul_nonneg (by omega) (by omega)
  have hp1:gD * (cj - from_)≤1000 * (cj - from_):=Int.mul_le_mul_of_nonneg_right (by omega) (by omega)
  rw [aG (n:=cj - from_) (by omega) (by omega),aG (n:=gD * (cj - from_)) (by omega) (by omega),aG (n:=1000 * basis) (by omega) (by omega)] at h DN ⊢
  exact (h ⟨by omega,by omega,by omega⟩ DN).1

theorem Dw (sum:Int) (gD:Int) (from_:Int) (cj:Int) (basis:Int):(jx sum gD from_ cj basis).bz (fun _=>True):=by
  unfold jx
  try simp only [xH,kg,so]
  exact yn

def qO sum gD from_ cj basis:=kp tok mixed Tryz.func122 [iv sum,iv gD,iv from_,iv cj,iv basis] (fun x=>.fL [iv x.1,iv x.2]) true (pY sum gD from_ cj basis) (u0 (Dw sum gD from_ cj basis)) (BU sum gD from_ cj basis)
def iq (sum:Int) (lg:Int) (from_:Int) (cj:Int):Sk (Int) :=
 .r 1 ((qO sum lg from_ cj 360).c) fun x1 =>
 .br (x1.2 == 3)
 (.fin 1099511627776)
 (.fin x1.1)
def eo sum lg from_ cj:=(iq sum lg from_ cj).val
theorem sE (sum:Int) (lg:Int) (from_:Int) (cj:Int):(iq sum lg from_ cj).cZ (fun (x:Int)=>0≤x∧x≤1099511627776):=by
  unfold iq
  try simp only [qO]
  exact DE

theorem l9 (sum:Int) (lg:Int) (from_:Int) (cj:Int):(fun (x:Int)=>0≤x∧x≤1099511627776) (eo sum lg from_ cj):=have h:=Sk.de _ (sE sum lg from_ cj); h
theorem BV (sum:Int) (lg:Int) (from_:Int) (cj:Int):(iq sum lg from_ cj).bz (fun _=>True):=by
  unfold iq
  try simp only [qO]
  exact pv

def lN sum lg from_ cj:=kp tok mixed Tryz.func69 [iv sum,iv lg,iv from_,iv cj] (fun x=>iv x) true (eo sum lg from_ cj) (u0 (BV sum lg from_ cj)) (sE sum lg from_ cj)
structure kV where
  num:Int
  den:Int
  deriving Inhabited
def kV.cells (c:kV):List D:=[dI c.num,dI c.den]
def ma (bE:List oJ) (from_:Int) (cj:Int) (day:Int):Sk (Int) :=
 .bind true (fun b1=>b1 = -1∨(0≤b1∧b1 < (bE.length:Int)))
 (.loop (default:Sum (Int) (Int)) (fun i2=>i2.2≤bE.length∧(i2.1 = -1∨(0≤i2.1∧i2.1 < (bE.length:Int)))) (fun i2=>bE.length - i2.2) (((-1),0):Int × Nat)
 (fun (i2:Int × Nat)=>⟨[(9,iv i2.1),(14,iv ((i2.2:Nat):Int))],[]⟩) fun i2 =>
 .lt 0 0 i2.2 bE.length
 (.r 4 (.p (bG ((i2.2:Nat):Int) bE.length)) fun _ =>
 .r 5 (.wh (((((bE.getD i2.2 default).from_) == from_)&&(((bE.getD i2.2 default).cj) == cj))&&(decide (((bE.getD i2.2 default).since)≤day))) true (.wh (decide (i2.1 < 0)) false (.p (bG i2.1 bE.length)))) fun _ =>
 .br ((((((bE.getD i2.2 default).from_) == from_)&&(((bE.getD i2.2 default).cj) == cj))&&(decide (((bE.getD i2.2 default).since)≤day)))&&((decide (i2.1 < 0))||(decide (((bE.getD i2.2 default).since) > ((bE.getD i2.1.toNat default).since)))))
 (.r 7 .z fun _ =>
 .wi 14 (au (((i2.2:Nat):Int)+1)) ((i2.2+1:Nat):Int) <|
 .fin (.inr (((i2.2:Nat):Int),i2.2+1)))
 (.nx 7 14 i2.2 (i2.1,i2.2+1)))
 (.fin (.inl (.inr i2.1))))
 (fun (b1:Int)=>⟨[(9,iv b1)],[]⟩) fun b1 =>
 .fin b1
def Qp bE from_ cj day:=(ma bE from_ cj day).val
theorem Gk (bE:List oJ) (from_:Int) (cj:Int) (day:Int):(ma bE from_ cj day).cZ (fun (x:Int)=>x = -1∨(0≤x∧x < (bE.length:Int))):=by
  unfold ma
  exact DE

theorem Jh (bE:List oJ) (from_:Int) (cj:Int) (day:Int):(ma bE from_ cj day).bz (fun _=>True):=by
  unfold ma
  exact oj

def rq bE from_ cj day:=kp tok mixed Tryz.func163 [lv oJ.cells bE,iv from_,iv cj,iv day] (fun x=>iv x) true (Qp bE from_ cj day) (u0 (Jh bE from_ cj day)) (Gk bE from_ cj day)
def pZ (n:Int):Sk (Int) :=
 .br (decide (n < 0))
 (.fin (IntKind.u64.wrap (0 - (IntKind.u64.wrap (n)))))
 (.fin (IntKind.u64.wrap (n)))
def U9 n:=(pZ n).val
theorem KX (n:Int):(pZ n).cZ (fun (x:Int)=>0≤x∧x < 18446744073709551616∧(0≤n→n≤9223372036854775807→x=n)):=by
  refine Sk.bp _ ?_
  unfold pZ
  simp only [Sk.cV,Sk.aO,reduceCtorEq,ON,kk,kp,maxLen]
  refine ⟨fun hc=>⟨(jN _).1,(jN _).2,fun h=>?_⟩,fun _=>⟨(jN _).1,(jN _).2,fun h1 h2=>dA h1 (by omega)⟩⟩
  simp only [LN] at hc
  omega

theorem Np (n:Int):(pZ n).bz (fun _=>True):=by
  unfold pZ
  exact pv

def u7 n:=kp tok mixed Tryz.func202 [iv n] (fun x=>.d (.v (.int .u64 x))) true (U9 n) (u0 (Np n)) (KX n)
theorem Xx {p q:Int} (hp:0≤p) (hq:0≤q):q.gcd (p.tmod q)=p.gcd q:=by
  obtain ⟨p,rfl⟩:=Int.eq_ofNat_of_zero_le hp
  obtain ⟨q,rfl⟩:=Int.eq_ofNat_of_zero_le hq
  rw [Int.tmod_eq_emod_of_nonneg (by omega),← Int.natCast_emod,Int.gcd_natCast_natCast,Int.gcd_natCast_natCast,Nat.gcd_comm q,Nat.gcd_comm p q,Nat.gcd_rec q p]
theorem LL {i:Int × Int} {a b:Int} (hi:0≤i.1∧0≤i.2∧Int.gcd i.1 i.2=Int.gcd a b) (h:i.2≠0):(0≤i.2∧0≤i.1.tmod i.2∧Int.gcd i.2 (i.1.tmod i.2)=Int.gcd a b)∧(i.1.tmod i.2).toNat < i.2.toNat:=by
  have h1:=Int.tmod_nonneg i.2 hi.1
  have h2:=Int.tmod_lt_of_pos i.1 (b:=i.2) (by omega)
  exact ⟨⟨hi.2.1,h1,(Xx hi.1 hi.2.1).trans hi.2.2⟩,by omega⟩
theorem TS {i:Int × Int} {a b:Int} (hi:0≤i.1∧0≤i.2∧Int.gcd i.1 i.2=Int.gcd a b) (h:i.2=0):i.1=(Int.gcd a b:Int):=by
  rw [← hi.2.2,h]
  have:=hi.1
  simp [Int.gcd_zero_right]
  omega
theorem Qq {n:Int} {g:Int} (hn:1≤n∧n≤1073741824) (hg:0 < g) (hd:g∣n):1≤IntKind.u64.wrap (n.tdiv g)∧IntKind.u64.wrap (n.tdiv g)≤1073741824:=by
  have e:n.tdiv g=n / g:=Int.tdiv_eq_ediv_of_nonneg (by omega)
  have h1:g≤n:=Int.le_of_dvd (by omega) hd
  have h2:1≤n / g:=(Int.le_ediv_iff_mul_le hg).2 (by omega)
  have h3:n / g≤n:=Int.ediv_le_self _ (by omega)
  rw [e,dA (by omega) (by omega)]
  omega
def mT (a:Int) (b:Int):Sk (Int) :=
 .bind true (fun b1=>b1=(Int.gcd a b:Int))
 (.loop (default:Sum (Int) (Int)) (fun i2=>0≤i2.1∧0≤i2.2∧Int.gcd i2.1 i2.2=Int.gcd a b) (fun i2=>i2.2.toNat) ((a,b):Int × Int)
 (fun (i2:Int × Int)=>⟨[(0,.d (.v (.int .u64 i2.1))),(1,.d (.v (.int .u64 i2.2)))],[]⟩) fun i2 =>
 .br (i2.2 != 0)
 (.r 2 (.p (i2.2≠0)) fun _ =>
 .fin (.inr (i2.2,i2.1.tmod i2.2)))
 (.fin (.inl (.inr i2.1))))
 (fun (b1:Int)=>⟨[(0,.d (.v (.int .u64 b1)))],[]⟩) fun b1 =>
 .fin b1
def LM a b:=(mT a b).val
theorem KY (a:Int) (b:Int) (hP:0≤a∧0≤b):(mT a b).cZ (fun (x:Int)=>x=(Int.gcd a b:Int)):=by
  refine Sk.bp _ ?_
  unfold mT
  simp only [Sk.cV,Sk.aO,reduceCtorEq,ON,kk,kp,maxLen]
  exact ⟨⟨hP,fun i hi=>⟨fun hc _=>LL hi (by simpa using hc),fun hc=>TS hi (by simpa using hc)⟩⟩,fun b hb=>hb⟩

theorem Ji (a:Int) (b:Int):(fun (x:Int)=>(0≤a∧0≤b)→(x=(Int.gcd a b:Int))) (LM a b):=fun hP=>Sk.de _ (KY a b hP)
theorem Nq (a:Int) (b:Int) (ha:0≤a∧0≤b):(mT a b).bz (fun _=>True):=by
  refine Sk.aX _ ?_
  unfold mT
  simp only [Sk.kq,Sk.aO,reduceCtorEq,ON,kk,kp,maxLen]
  exact ⟨ha,fun i hi=>⟨fun hc=>⟨by simpa using hc,fun _=>LL hi (by simpa using hc)⟩,fun hc=>TS hi (by simpa using hc)⟩⟩

def zI a b:=kk tok mixed Tryz.func203 [.d (.v (.int .u64 a)),.d (.v (.int .u64 b))] (fun x=>.d (.v (.int .u64 x))) true (mT a b) (LM a b) (Nq a b) (fun (x:Int)=>(0≤a∧0≤b)→(x=(Int.gcd a b:Int))) (Ji a b)
structure Gl where
  hi:Int
  lo:Int
  deriving Inhabited
def Gl.cells (c:Gl):List D:=[.v (.int .u64 c.hi),.v (.int .u64 c.lo)]
def k9 (negative:Bool) (num:Gl) (den:Gl):Sk (kV × Int) :=
 .br ((((decide (num.hi > 0))||(decide (den.hi > 0)))||(decide (num.lo > 1152921504606846976)))||(decide (den.lo > 1152921504606846976)))
 (.fin (({ num:=0,den:=0 }:kV),3))
 (.br negative
 (.fin (({ num:=au (0 - (au (num.lo))),den:=au (den.lo) }:kV),0))
 (.fin (({ num:=au (num.lo),den:=au (den.lo) }:kV),0)))
def Jj negative num den:=(k9 negative num den).val
theorem Jk (negative:Bool) (num:Gl) (den:Gl) (hP:num.hi=0∧den.hi=0∧negative=false∧(1≤num.lo∧num.lo≤1073741824)∧1≤den.lo∧den.lo≤1073741824):(k9 negative num den).cZ (fun (x:kV × Int)=>x.1.num=num.lo∧x.1.den=den.lo):=by
  unfold k9
  exact DE

theorem Gm (negative:Bool) (num:Gl) (den:Gl):(fun (x:kV × Int)=>(num.hi=0∧den.hi=0∧negative=false∧(1≤num.lo∧num.lo≤1073741824)∧1≤den.lo∧den.lo≤1073741824)→(x.1.num=num.lo∧x.1.den=den.lo)) (Jj negative num den):=fun hP=>Sk.de _ (Jk negative num den hP)
theorem KZ (negative:Bool) (num:Gl) (den:Gl):(k9 negative num den).bz (fun _=>True):=by
  unfold k9
  exact pv

def xI negative num den:=kk tok mixed Tryz.func204 [bv negative,av num.cells,av den.cells] (fun x=>.fL [av x.1.cells,iv x.2]) true (k9 negative num den) (Jj negative num den) (u0 (KZ negative num den)) (fun (x:kV × Int)=>(num.hi=0∧den.hi=0∧negative=false∧(1≤num.lo∧num.lo≤1073741824)∧1≤den.lo∧den.lo≤1073741824)→(x.1.num=num.lo∧x.1.den=den.lo)) (Gm negative num den)
def nF (num:Int) (den:Int):Sk (kV × Int) :=
 .br (den == 0)
 (.fin (({ num:=0,den:=0 }:kV),1))
 (.r 3 (.dep ((u7 num).c) fun _=>(u7 den).c) fun p5 =>
 .r 4 ((zI p5.1 p5.2).c) fun x3 =>
 .r 5 (.aq (.p (x3≠0)) (.aq (.p (x3≠0)) ((xI (!((decide (num < 0)) == (decide (den < 0)))) ({ hi:=0,lo:=IntKind.u64.wrap (p5.1.tdiv x3) }:Gl) ({ hi:=0,lo:=IntKind.u64.wrap (p5.2.tdiv x3) }:Gl)).c))) fun x4 =>
 .fin (x4.1,x4.2))
def Sz num den:=(nF num den).val
theorem Jl (num:Int) (den:Int):(nF num den).cZ (fun (x:kV × Int)=>(den=0→x.2=1)∧((1≤num∧num≤1073741824)∧1≤den∧den≤1073741824→(1≤x.1.num∧x.1.num≤1073741824)∧1≤x.1.den∧x.1.den≤1073741824)):=by
  refine Sk.bp _ ?_
  unfold nF
  simp only [Sk.cV,Sk.aO,reduceCtorEq,ON,kk,kp,u7,zI,xI,maxLen]
  refine ⟨fun hc h=>?_,fun hc x _ hx y _ hy z _ hz=>⟨fun h=>?_,fun h=>?_⟩⟩
  all_goals simp only [LN] at hc
  · omega
  · omega
  · have e1:=hx.1.2.2 (by omega) (by omega)
    have e2:=hx.2.2.2 (by omega) (by omega)
    have hg:=hy ⟨hx.1.1,hx.2.1⟩
    rw [e1,e2] at hg hz
    have J3:0 < y:=by
      rw [hg]
      have:=Int.gcd_pos_of_ne_zero_left (a:=num) den (by omega)
      omega
    have q1:=Qq h.1 J3 (by rw [hg]; exact Int.gcd_dvd_left ..)
    have q2:=Qq h.2 J3 (by rw [hg]; exact Int.gcd_dvd_right ..)
    have Yp:(!decide (num < 0) == decide (den < 0))=false:=by
      rw [decide_eq_false (by omega),decide_eq_false (by omega)]; rfl
    have:=hz ⟨Yp,q1,q2⟩
    omega

theorem K0 (num:Int) (den:Int) (hd:(0≤num∧num≤1073741824)∧0≤den∧den≤1073741824):(nF num den).bz (fun _=>True):=by
  refine Sk.aX _ ?_
  unfold nF
  simp only [Sk.kq,Sk.aO,reduceCtorEq,ON,kk,kp,u7,zI,xI,maxLen]
  intro hc x _ hx
  refine ⟨⟨hx.1.1,hx.2.1⟩,fun y _ hy=>?_⟩
  simp only [LN] at hc
  have hg:=hy ⟨hx.1.1,hx.2.1⟩
  have e2:=hx.2.2.2 (by omega) (by omega)
  have:=Int.gcd_pos_of_ne_zero_right x.1 (b:=x.2) (by omega)
  omega

def xJ num den:=kp tok mixed Tryz.func164 [iv num,iv den] (fun x=>.fL [av x.1.cells,iv x.2]) true (Sz num den) (K0 num den) (Jl num den)
def kh (r:ah) (from_:Int) (cj:Int) (day:Int):Sk (kV × Bool) :=
 .r 2 ((rq r.bE from_ cj day).c) fun x1 =>
 .bind false (fun b2=>r.dj→(b2.1=0∧b2.2=0)∨((1≤b2.1∧b2.1≤1073741824)∧1≤b2.2∧b2.2≤1073741824))
 (.br (decide (x1≥0))
 (.r 4 (.aq (.p (bG x1 r.bE.length)) (.p (bG x1 r.bE.length))) fun _ =>
 .fin (.inr ((r.bE.getD x1.toNat default).num,(r.bE.getD x1.toNat default).den)))
 (.r 5 ((rq r.bE cj from_ day).c) fun x3 =>
 .br (decide (x3≥0))
 (.r 7 (.aq (.p (bG x3 r.bE.length)) (.p (bG x3 r.bE.length))) fun _ =>
 .fin (.inr ((r.bE.getD x3.toNat default).den,(r.bE.getD x3.toNat default).num)))
 (.fin (.inr (0,0)))))
 (fun (b2:Int × Int)=>⟨[(10,iv b2.1),(11,iv b2.2)],[]⟩) fun b2 =>
 .r 8 ((xJ b2.1 b2.2).c) fun x4 =>
 .fin (x4.1,x4.2 == 0)
def kz r from_ cj day:=(kh r from_ cj day).val
theorem Gn (r:ah) (from_:Int) (cj:Int) (day:Int) (hP:r.dj):(kh r from_ cj day).cZ (fun (x:kV × Bool)=>x.2=true→(1≤x.1.num∧x.1.num≤1073741824)∧1≤x.1.den∧x.1.den≤1073741824):=by
  refine Sk.bp _ ?_
  unfold kh
  simp only [Sk.cV,Sk.aO,reduceCtorEq,ON,kk,kp,rq,xJ,maxLen]
  intro x _ hx
  refine ⟨⟨fun hc _ hR=>?_,fun hc y _ hy=>⟨fun DN _ hR=>?_,fun _ _=>.inl trivial⟩⟩,fun b _ hb z _ hz h0=>?_⟩
  · simp only [LN] at hc
    exact .inr (hR x.toNat (by omega))
  · simp only [LN] at DN
    exact .inr ⟨(hR y.toNat (by omega)).2,(hR y.toNat (by omega)).1⟩
  · rcases hb hP with h | h
    · have:=hz.1 h.2
      rw [this] at h0
      exact absurd h0 (by decide)
    · exact hz.2 h

theorem qP (r:ah) (from_:Int) (cj:Int) (day:Int):(fun (x:kV × Bool)=>(r.dj)→(x.2=true→(1≤x.1.num∧x.1.num≤1073741824)∧1≤x.1.den∧x.1.den≤1073741824)) (kz r from_ cj day):=fun hP=>Sk.de _ (Gn r from_ cj day hP)
theorem Jm (r:ah) (from_:Int) (cj:Int) (day:Int) (hra:r.dj):(kh r from_ cj day).bz (fun _=>True):=by
  refine Sk.aX _ ?_
  unfold kh
  simp only [Sk.kq,Sk.aO,reduceCtorEq,ON,kk,kp,rq,xJ,maxLen]
  intro x _ hx
  refine ⟨⟨fun hc=>⟨?_,fun _ hR=>?_⟩,fun hc y _ hy=>⟨fun DN=>⟨?_,fun _ hR=>?_⟩,fun _ _=>.inl trivial⟩⟩,fun b _ hb=>?_⟩
  · simp only [LN] at hc; omega
  · simp only [LN] at hc
    exact .inr (hR x.toNat (by omega))
  · simp only [LN] at DN; omega
  · simp only [LN] at DN
    exact .inr ⟨(hR y.toNat (by omega)).2,(hR y.toNat (by omega)).1⟩
  · rcases hb hra with h | h <;> omega

def rr r from_ cj day:=kk tok mixed Tryz.func123 [av r.cells,iv from_,iv cj,iv day] (fun x=>.fL [av x.1.cells,bv x.2]) true (kh r from_ cj day) (kz r from_ cj day) (Jm r from_ cj day) (fun (x:kV × Bool)=>(r.dj)→(x.2=true→(1≤x.1.num∧x.1.num≤1073741824)∧1≤x.1.den∧x.1.den≤1073741824)) (qP r from_ cj day)
theorem EN {a b:Int} (ha:1≤a∧a≤1073741824) (hb:1≤b∧b≤1073741824):(1≤a * b∧a * b≤1152921504606846976)∧IntKind.u64.wrap (IntKind.u64.wrap a * IntKind.u64.wrap b)=a * b:=by
  have h1:1 * b≤a * b:=Int.mul_le_mul_of_nonneg_right ha.1 (by omega)
  have h2:a * b≤1073741824 * b:=Int.mul_le_mul_of_nonneg_right ha.2 (by omega)
  have h3:1≤a * b∧a * b≤1152921504606846976:=by omega
  rw [dA (n:=a) (by omega) (by omega),dA (n:=b) (by omega) (by omega),dA (by omega) (by omega)]
  exact ⟨h3,rfl⟩
theorem Jn {s D W x y:Int} (hs:0≤s∧s≤1099511627776) (hD:0≤D∧D≤W) (hW:1≤W∧W≤1152921504606846976) (hx:0≤x) (hy:0≤y) (e:x * 18446744073709551616+y=s * D):x < W∧0≤s * D / W∧s * D / W≤s:=by
  have h0:0≤s * D:=Int.mul_nonneg hs.1 hD.1
  have h1:s * D≤s * W:=Int.mul_le_mul_of_nonneg_left hD.2 hs.1
  have h2:s * W≤1099511627776 * W:=Int.mul_le_mul_of_nonneg_right hs.2 (by omega)
  exact ⟨by omega,Int.ediv_nonneg h0 (by omega),Int.ediv_le_of_le_mul (by omega) h1⟩
def ki (sum:Int) (a:kV) (b:kV):Sk (Int) :=
 .br (decide ((IntKind.u64.wrap ((IntKind.u64.wrap (a.num)) * (IntKind.u64.wrap (b.num))))≥(IntKind.u64.wrap ((IntKind.u64.wrap (a.den)) * (IntKind.u64.wrap (b.den))))))
 (.fin 0)
 (.r 4 ((jh (IntKind.u64.wrap (sum)) (IntKind.u64.wrap ((IntKind.u64.wrap ((IntKind.u64.wrap (a.den)) * (IntKind.u64.wrap (b.den)))) - (IntKind.u64.wrap ((IntKind.u64.wrap (a.num)) * (IntKind.u64.wrap (b.num))))))).c) fun x1 =>
 .r 5 ((mS x1.1 x1.2 (IntKind.u64.wrap ((IntKind.u64.wrap (a.den)) * (IntKind.u64.wrap (b.den))))).c) fun x2 =>
 .fin (au (x2.1)))
def mb sum a b:=(ki sum a b).val
theorem Gp (sum:Int) (a:kV) (b:kV) (hP:(0≤sum∧sum≤1099511627776)∧((1≤a.num∧a.num≤1073741824)∧1≤a.den∧a.den≤1073741824)∧(1≤b.num∧b.num≤1073741824)∧1≤b.den∧b.den≤1073741824):(ki sum a b).cZ (fun (x:Int)=>0≤x∧x≤1099511627776):=by
  refine Sk.bp _ ?_
  unfold ki
  simp only [Sk.cV,Sk.aO,reduceCtorEq,ON,kk,kp,mS,jh,maxLen]
  obtain ⟨hs,ha,hb⟩:=hP
  obtain ⟨hk,ek⟩:=EN (a:=a.num) (b:=b.num) ha.1 hb.1
  obtain ⟨hw,ew⟩:=EN (a:=a.den) (b:=b.den) ha.2 hb.2
  rw [ek,ew]
  refine ⟨fun _=>⟨by decide,by decide⟩,fun hc x _ hx y _ hy=>?_⟩
  simp only [LN] at hc
  rw [dA (n:=sum) hs.1 (by omega),dA (n:=a.den * b.den - a.num * b.num) (by omega) (by omega)] at hx
  obtain ⟨h1,h2,h3⟩:=hx ⟨⟨hs.1,by omega⟩,by omega,by omega⟩
  obtain ⟨l1,l2,l3⟩:=Jn hs (D:=a.den * b.den - a.num * b.num) (by omega) hw h1.1 h2.1 h3
  have hy:=(hy ⟨h1.1,l1,by omega,h2.1,h2.2⟩).1
  rw [h3] at hy
  rw [aG (by omega) (by omega)]
  omega

theorem EO (sum:Int) (a:kV) (b:kV):(fun (x:Int)=>((0≤sum∧sum≤1099511627776)∧((1≤a.num∧a.num≤1073741824)∧1≤a.den∧a.den≤1073741824)∧(1≤b.num∧b.num≤1073741824)∧1≤b.den∧b.den≤1073741824)→(0≤x∧x≤1099511627776)) (mb sum a b):=fun hP=>Sk.de _ (Gp sum a b hP)
theorem Jo (sum:Int) (a:kV) (b:kV) (hs:0≤sum∧sum≤1099511627776) (ha:(1≤a.num∧a.num≤1073741824)∧1≤a.den∧a.den≤1073741824) (hb:(1≤b.num∧b.num≤1073741824)∧1≤b.den∧b.den≤1073741824):(ki sum a b).bz (fun _=>True):=by
  refine Sk.aX _ ?_
  unfold ki
  simp only [Sk.kq,Sk.aO,reduceCtorEq,ON,kk,kp,mS,jh,maxLen]
  obtain ⟨hk,ek⟩:=EN (a:=a.num) (b:=b.num) ha.1 hb.1
  obtain ⟨hw,ew⟩:=EN (a:=a.den) (b:=b.den) ha.2 hb.2
  rw [ek,ew]
  intro hc x _ hx
  simp only [LN] at hc
  rw [dA (n:=sum) hs.1 (by omega),dA (n:=a.den * b.den - a.num * b.num) (by omega) (by omega)] at hx
  obtain ⟨h1,h2,h3⟩:=hx ⟨⟨hs.1,by omega⟩,by omega,by omega⟩
  obtain ⟨l1,l2,l3⟩:=Jn hs (D:=a.den * b.den - a.num * b.num) (by omega) hw h1.1 h2.1 h3
  exact ⟨h1.1,l1,by omega,h2.1,h2.2⟩

def vA sum a b:=kk tok mixed Tryz.func124 [iv sum,av a.cells,av b.cells] (fun x=>iv x) true (ki sum a b) (mb sum a b) (u3 (Jo sum a b)) (fun (x:Int)=>((0≤sum∧sum≤1099511627776)∧((1≤a.num∧a.num≤1073741824)∧1≤a.den∧a.den≤1073741824)∧(1≤b.num∧b.num≤1073741824)∧1≤b.den∧b.den≤1073741824)→(0≤x∧x≤1099511627776)) (EO sum a b)
def fT (r:ah) (b:qd) (dt:Int) (sum:Int) (from_:Int) (cj:Int):Sk (Int) :=
 .r 1 (.aq (.p (bG dt r.bm.length)) (.p (bG ((r.bm.getD dt.toNat default).bZ) r.aI.length))) fun _ =>
 .br (((r.aI.getD (((r.bm.getD dt.toNat default).bZ).toNat) default).az) == b.az)
 (.fin 0)
 (.r 4 ((rr r b.az ((r.aI.getD (((r.bm.getD dt.toNat default).bZ).toNat) default).az) from_).c) fun x1 =>
 .r 5 ((rr r ((r.aI.getD (((r.bm.getD dt.toNat default).bZ).toNat) default).az) b.az cj).c) fun x2 =>
 .br ((!x1.2)||(!x2.2))
 (.fin 0)
 (.r 8 ((vA sum x1.1 x2.1).c) fun x3 =>
 .fin x3))
def iU r b dt sum from_ cj:=(fT r b dt sum from_ cj).val
theorem AR (r:ah) (b:qd) (dt:Int) (sum:Int) (from_:Int) (cj:Int) (hP:(0≤sum∧sum≤1099511627776)∧r.dj):(fT r b dt sum from_ cj).cZ (fun (x:Int)=>0≤x∧x≤1099511627776):=by
  unfold fT
  try simp only [rr,vA]
  exact DE

theorem mc (r:ah) (b:qd) (dt:Int) (sum:Int) (from_:Int) (cj:Int):(fun (x:Int)=>((0≤sum∧sum≤1099511627776)∧r.dj)→(0≤x∧x≤1099511627776)) (iU r b dt sum from_ cj):=fun hP=>Sk.de _ (AR r b dt sum from_ cj hP)
theorem BW (r:ah) (b:qd) (dt:Int) (sum:Int) (from_:Int) (cj:Int) (hw:0≤dt∧dt < (r.bm.length:Int)) (hs:0≤sum∧sum≤1099511627776) (hfi:r.iI) (hra:r.dj):(fT r b dt sum from_ cj).bz (fun _=>True):=by
  refine Sk.aX _ ?_
  unfold fT
  simp only [Sk.kq,Sk.aO,reduceCtorEq,ON,kk,kp,rr,vA,maxLen]
  refine ⟨⟨hw,hfi dt.toNat (by omega)⟩,fun _ _=>⟨hra,fun x _ hx=>⟨hra,fun y _ hy hc=>?_⟩⟩⟩
  simp only [LN] at hc
  exact ⟨hs,hx hra hc.1,hy hra hc.2⟩

def lO r b dt sum from_ cj:=kk tok mixed Tryz.func71 [av r.cells,av b.cells,iv dt,iv sum,iv from_,iv cj] (fun x=>iv x) true (fT r b dt sum from_ cj) (iU r b dt sum from_ cj) (u4 (BW r b dt sum from_ cj)) (fun (x:Int)=>((0≤sum∧sum≤1099511627776)∧r.dj)→(0≤x∧x≤1099511627776)) (mc r b dt sum from_ cj)
def iu (r:ah) (forum:Int) (f:al) (sign:Int) (day:Int):Sk (AQ) :=
 .r 1 ((ch f day).c) fun x1 =>
 .r 2 ((rl r forum f sign day).c) fun x2 =>
 .br (((!x2.2)||(decide (sign < 0)))||(decide (sign≥((x1.af.length:Nat):Int))))
 (.fin ({ sum:=0,kU:=0,xZ:=0,exchange:=0,Sy:=0,rest:=0,az:=0 }:AQ))
 (.r 6 ((cK r forum f day).c) fun x3 =>
 .bind false (fun b4=>cm r f→r.dj→(0≤b4.sum∧b4.sum≤1099511627776)∧(0≤b4.kU∧b4.kU≤1099511627776)∧(0≤b4.xZ∧b4.xZ≤1099511627776)∧(0≤b4.exchange∧b4.exchange≤1099511627776))
 (.br ((x3 != (-1))&&(decide (x3≤(bL day 100000))))
 (.bind false (fun _=>True)
 (.br (f.aR.lg == 0)
 (.r 11 (.dep ((gS r forum 16 ({ file:=f,sign:=sign,jE:=sign,jO:=(-1),due:=x3,day:=day }:fw)).c) fun x6=>(mJ x6).c) fun p8 =>
 .fin (.inr (bL 1000 (cg 0 p8.2))))
 (.fin (.inr f.aR.lg)))
 (fun (b5:Int)=>⟨[(18,iv b5)],[]⟩) fun b5 =>
 .r 12 ((lN x2.1.sum b5 x3 (bL day 100000)).c) fun x9 =>
 .r 13 (.dep ((gS r forum 17 ({ file:=f,sign:=sign,jE:=sign,jO:=(-1),due:=x3,day:=day }:fw)).c) fun Oc=>(fp Oc).c) fun p13 =>
 .br (p13.2 == 1)
 (.r 14 (.aq (.p (bG sign x1.af.length)) ((lO r f.aR ((x1.af.getD sign.toNat default).dt) x2.1.sum x3 (bL day 100000)).c)) fun Y0 =>
 .fin (.inr ({ sum:=x2.1.sum,kU:=x9,xZ:=0,exchange:=Y0,Sy:=0,rest:=0,az:=f.aR.az }:AQ)))
 (.fin (.inr ({ sum:=x2.1.sum,kU:=x9,xZ:=0,exchange:=0,Sy:=0,rest:=0,az:=f.aR.az }:AQ))))
 (.fin (.inr ({ sum:=x2.1.sum,kU:=0,xZ:=0,exchange:=0,Sy:=0,rest:=0,az:=f.aR.az }:AQ))))
 (fun (b4:AQ)=>⟨[],[(14,.box (b4.cells.map .d))]⟩) fun b4 =>
 .bind true (fun GN=>cm r f→0≤GN∧GN≤1099511627776)
 (.loop (default:Sum (AQ) (Int)) (fun i15=>i15.1≤x1.aA.length∧(cm r f→0≤i15.2∧i15.2≤1099511627776)) (fun i15=>x1.aA.length - i15.1) ((0,b4.xZ):Nat × Int)
 (fun (i15:Nat × Int)=>⟨[(116,iv ((i15.1:Nat):Int))],[(14,.box [iv b4.sum,iv b4.kU,iv i15.2,iv b4.exchange,iv b4.Sy,iv b4.rest,iv b4.az])]⟩) fun i15 =>
 .lt 114 0 i15.1 x1.aA.length
 (.r 17 (.p (bG ((i15.1:Nat):Int) x1.aA.length)) fun _ =>
 .br ((((x1.aA.getD i15.1 default).kind) == 4)||(((x1.aA.getD i15.1 default).kind) == 5))
 (.r 20 .z fun _ =>
 .wi 116 (au (((i15.1:Nat):Int)+1)) ((i15.1+1:Nat):Int) <|
 .fin (.inr (i15.1+1,bL 1099511627776 (au (i15.2+((x1.aA.getD i15.1 default).sum))))))
 (.nx 20 116 i15.1 (i15.1+1,i15.2)))
 (.fin (.inl (.inr i15.2))))
 (fun (GN:Int)=>⟨[],[(14,.box [iv b4.sum,iv b4.kU,iv GN,iv b4.exchange,iv b4.Sy,iv b4.rest,iv b4.az])]⟩) fun GN =>
 .fin ({ b4 with xZ:=GN,rest:=bL 1099511627776 (au ((au ((au (b4.sum+b4.kU))+GN))+b4.exchange)) }))
def gj r forum f sign day:=(iu r forum f sign day).val
theorem Gq (r:ah) (forum:Int) (f:al) (sign:Int) (day:Int) (hP:cm r f∧r.dj):(iu r forum f sign day).cZ (fun (x:AQ)=>0≤x.rest∧x.rest≤1099511627776):=by
  refine Sk.bp _ ?_
  unfold iu
  simp only [Sk.cV,Sk.aO,reduceCtorEq,ON,kk,kp,lO,lN,gS,cK,mJ,fp,rl,ch,maxLen]
  obtain ⟨hF,hR⟩:=hP
  have aa2:=hF.UK
  have hSm:=hF.small
  have hw:∀ h1:al,h1=ai f day→0≤sign→sign < (h1.af.length:Int)→0≤(h1.af.getD sign.toNat default).dt∧(h1.af.getD sign.toNat default).dt < (r.bm.length:Int):=fun h1 e a b=>by subst e; exact hF.Xa day a b
  have ha:∀ h1:al,h1=ai f day→∀ q:Nat,q < h1.aA.length→0≤(h1.aA.getD q default).sum∧(h1.aA.getD q default).sum≤1099511627776:=fun h1 e q hq=>by subst e; exact (hF.MX day).2.2.2 q hq
  all_goals (repeat' first | assumption | (apply And.intro) | (intro h))
  all_goals first | trivial | assumption | omega | (try simp only [hF,hR,aa2,hSm,and_self,and_true,true_implies,forall_const,LN] at *) <;> first | omega | assumption | exact (hw _ ‹_=ai f day› (by omega) (by omega)).1 | exact (hw _ ‹_=ai f day› (by omega) (by omega)).2 | (simp (disch:=omega) only [aG] at *; omega) | (simp (disch:=omega) only [aG,bL] at *; split <;> omega) | (have hq:=ha _ ‹_=ai f day› _ (Int.ofNat_lt.1 (by assumption)); simp (disch:=omega) only [aG,bL] at *; first | omega | (split <;> omega))

theorem wG (r:ah) (forum:Int) (f:al) (sign:Int) (day:Int):(fun (x:AQ)=>(cm r f∧r.dj)→(0≤x.rest∧x.rest≤1099511627776)) (gj r forum f sign day):=fun hP=>Sk.de _ (Gq r forum f sign day hP)
theorem Jp (r:ah) (forum:Int) (f:al) (sign:Int) (day:Int) (hF:cm r f) (bM:f.Small) (cu:r.cG) (bN:r.Small) (kM:r.iI) (jJ:r.dj):(iu r forum f sign day).bz (fun _=>True):=by
  refine Sk.aX _ ?_
  unfold iu
  simp only [Sk.kq,Sk.aO,reduceCtorEq,ON,kk,kp,lO,lN,gS,cK,mJ,fp,rl,ch,maxLen]
  have aa2:=hF.UK
  have hSm:=hF.small
  have hw:∀ h1:al,h1=ai f day→0≤sign→sign < (h1.af.length:Int)→0≤(h1.af.getD sign.toNat default).dt∧(h1.af.getD sign.toNat default).dt < (r.bm.length:Int):=fun h1 e a b=>by subst e; exact hF.Xa day a b
  have ha:∀ h1:al,h1=ai f day→∀ q:Nat,q < h1.aA.length→0≤(h1.aA.getD q default).sum∧(h1.aA.getD q default).sum≤1099511627776:=fun h1 e q hq=>by subst e; exact (hF.MX day).2.2.2 q hq
  all_goals (repeat' first | assumption | (apply And.intro) | (intro h))
  all_goals first | trivial | assumption | omega | (try simp only [hF,jJ,aa2,hSm,and_self,and_true,true_implies,forall_const,LN] at *) <;> first | omega | assumption | exact (hw _ ‹_=ai f day› (by omega) (by omega)).1 | exact (hw _ ‹_=ai f day› (by omega) (by omega)).2 | (simp (disch:=omega) only [aG] at *; omega) | (simp (disch:=omega) only [aG,bL] at *; split <;> omega) | (have hq:=ha _ ‹_=ai f day› _ (Int.ofNat_lt.1 (by assumption)); simp (disch:=omega) only [aG,bL] at *; first | omega | (split <;> omega))

def vB r forum f sign day:=kk tok mixed Tryz.func29 [av r.cells,iv forum,av f.cells,iv sign,iv day] (fun x=>av x.cells) true (iu r forum f sign day) (gj r forum f sign day) (u6 (Jp r forum f sign day)) (fun (x:AQ)=>(cm r f∧r.dj)→(0≤x.rest∧x.rest≤1099511627776)) (wG r forum f sign day)
def la (r:ah) (forum:Int) (f:al) (day:Int):Sk ((List Claim)) :=
 .r 1 ((EC r forum f day).c) fun x1 =>
 .br (!x1.2)
 (.fin [])
 (.r 4 ((uc r forum f day).c) fun x2 =>
 .bind true (fun b3=>b3.length≤1000000)
 (.loop (default:Sum ((List Claim)) ((List Claim))) (fun i4=>i4.1≤x1.1.view.lead.length∧i4.2.length≤i4.1 * 10000) (fun i4=>x1.1.view.lead.length - i4.1) ((0,[]):Nat × (List Claim))
 (fun (i4:Nat × (List Claim))=>⟨[(42,iv ((i4.1:Nat):Int))],[(100366,bO 50 9 Claim.cells i4.2),(12,.box [ow 100366 i4.2])]⟩) fun i4 =>
 .lt 40 0 i4.1 x1.1.view.lead.length
 (.bind true (fun b5=>b5.length≤i4.2.length+10000)
 (.r 8 (.p (bG ((i4.1:Nat):Int) x1.1.view.lead.length)) fun _ =>
 .r 9 ((qI x1.1.view (x1.1.view.lead.getD i4.1 default)).c) fun x6 =>
 .r 10 ((ug x1.1 x6).c) fun _ =>
 .bind true (fun b8=>b8.length≤i4.2.length+10000)
 (.rf (kJ x1.1 x6) (fun ki9 i9=>i9.length≤i4.2.length+ki9 * 100) (fun (_:Unit)=>False) 2 (i4.2:(List Claim))
 (fun (i9:(List Claim))=>[(100534,bO 50 9 Claim.cells i9),(12,.box [ow 100534 i9])]) (fun (_:Unit)=>[])
 (fun i9 SA =>
 .bind true (fun b12=>b12.length≤i9.length+100)
 (.r 12 ((pV x1.1.view (x1.1.view.lead.getD i4.1 default) SA.sign x6).c) fun Ii =>
 .bind true (fun GN=>GN.2.length≤i9.length+Ii.length)
 (.loop (default:Sum (Sum (Sum (Unit) ((List Claim))) ((List Claim))) (Int × (List Claim))) (fun i15=>i15.1≤Ii.length∧i15.2.length≤i9.length+i15.1) (fun i15=>Ii.length - i15.1) ((0,i9):Nat × (List Claim))
 (fun (i15:Nat × (List Claim))=>⟨[(62,iv ((i15.1:Nat):Int))],[(100548,bO 50 9 Claim.cells i15.2),(12,.box [ow 100548 i15.2])]⟩) fun i15 =>
 .lt 60 0 i15.1 Ii.length
 (.r 14 (.p (bG ((i15.1:Nat):Int) Ii.length)) fun _ =>
 .r 15 (.p (bG (Ii.getD i15.1 default) x1.1.view.now.af.length)) fun _ =>
 .r 16 ((pX x1.1 SA (Ii.getD i15.1 default) x6 x2).c) fun UW =>
 .br ((UW.1 == 0)||(((x1.1.view.now.af.getD ((Ii.getD i15.1 default).toNat) default).dt) == SA.fA))
 (.nx 20 62 i15.1 (i15.1+1,i15.2))
 (.r 18 ((vB r forum f (Ii.getD i15.1 default) day).c) fun X6 =>
 .r 19 (.aq (.o [.fU (gB Claim.E [({ aF:=(x1.1.view.now.af.getD ((Ii.getD i15.1 default).toNat) default).dt,ak:=SA.fA,part:=x1.1.view.lead.getD i4.1 default,sign:=Ii.getD i15.1 default,cz:=SA.sign,dR:=UW.2,sum:=X6.rest,az:=f.aR.az,state:=UW.1 }:Claim)])]) (.aq (.o [.fU (og Claim.E i15.2 [({ aF:=(x1.1.view.now.af.getD ((Ii.getD i15.1 default).toNat) default).dt,ak:=SA.fA,part:=x1.1.view.lead.getD i4.1 default,sign:=Ii.getD i15.1 default,cz:=SA.sign,dR:=UW.2,sum:=X6.rest,az:=f.aR.az,state:=UW.1 }:Claim)])]) (.aq (.t (Claim.E.qc [({ aF:=(x1.1.view.now.af.getD ((Ii.getD i15.1 default).toNat) default).dt,ak:=SA.fA,part:=x1.1.view.lead.getD i4.1 default,sign:=Ii.getD i15.1 default,cz:=SA.sign,dR:=UW.2,sum:=X6.rest,az:=f.aR.az,state:=UW.1 }:Claim)])) (.p (ym i15.2.length [({ aF:=(x1.1.view.now.af.getD ((Ii.getD i15.1 default).toNat) default).dt,ak:=SA.fA,part:=x1.1.view.lead.getD i4.1 default,sign:=Ii.getD i15.1 default,cz:=SA.sign,dR:=UW.2,sum:=X6.rest,az:=f.aR.az,state:=UW.1 }:Claim)].length 72))))) fun _ =>
 .r 20 .z fun _ =>
 .wi 62 (au (((i15.1:Nat):Int)+1)) ((i15.1+1:Nat):Int) <|
 .fin (.inr (i15.1+1,i15.2++[({ aF:=(x1.1.view.now.af.getD ((Ii.getD i15.1 default).toNat) default).dt,ak:=SA.fA,part:=x1.1.view.lead.getD i4.1 default,sign:=Ii.getD i15.1 default,cz:=SA.sign,dR:=UW.2,sum:=X6.rest,az:=f.aR.az,state:=UW.1 }:Claim)]))))
 (.fin (.inl (.inr (((i15.1:Nat):Int),i15.2)))))
 (fun (GN:Int × (List Claim))=>⟨[(62,iv GN.1)],[(100547,bO 50 9 Claim.cells GN.2),(12,.box [ow 100547 GN.2])]⟩) fun GN =>
 .fin (.inr GN.2))
 (fun (b12:(List Claim))=>⟨[],[(100545,bO 50 9 Claim.cells b12),(12,.box [ow 100545 b12])]⟩) fun b12 =>
 .fin (.inr b12)) fun r=>match r with
 | .inl _=>(.dead default)
 | .inr j18=>(.fin (.inr j18)))
 (fun (b8:(List Claim))=>⟨[],[(100526,bO 50 9 Claim.cells b8),(12,.box [ow 100526 b8])]⟩) fun b8 =>
 .fin (.inr b8))
 (fun (b5:(List Claim))=>⟨[],[(100503,bO 50 9 Claim.cells b5),(12,.box [ow 100503 b5])]⟩) fun b5 =>
 .nx 21 42 i4.1 (i4.1+1,b5))
 (.fin (.inl (.inr i4.2))))
 (fun (b3:(List Claim))=>⟨[],[(100274,bO 50 9 Claim.cells b3),(12,.box [ow 100274 b3])]⟩) fun b3 =>
 .fin b3)
def bV r forum f day:=(la r forum f day).val
theorem Bc (r:ah) (forum:Int) (f:al) (day:Int) (hF:cm r f) (bM:f.Small) (cu:r.cG) (bN:r.Small) (kM:r.iI) (jJ:r.dj):(la r forum f day).bz (fun _=>True):=by
  refine Sk.aX _ ?_
  unfold la
  simp only [Sk.kq,Sk.aO,reduceCtorEq,ON,kk,kp,Sk.cV,vB,uc,ug,pX,EC,pV,qI,kJ,Sum.forall,AK,forall_eq,maxLen]
  refine ⟨⟨bM,cu,bN⟩,?_⟩
  generalize aC r forum f day=x
  intro hx hc
  have he:=(hx (by simpa using hc)).1
  have ho:=A9 f day
  dsimp only at ho
  have pa:x.1.view.all=f:=by rw [he]; exact ho.1
  have Jq:x.1.view.now=ai f day:=by rw [he]; exact ho.2.1
  have PT:x.1.view.day=day:=by rw [he]; exact ho.2.2.1
  have hxr:x.1.r=r:=by rw [he]
  have aev:=hF.2.1.1
  have acG:x.1.view.lead.length≠0∧x.1.view.lead.length≤41:=by rw [he]; exact ⟨ho.2.2.2.1,by have:=ho.2.2.2.2; show (aB f day).lead.length≤41; omega⟩
  have hsg:=mG f day
  have acH:x.1.view.jD:=by unfold View.jD; rw [Jq]; exact hF.MY day
  have vc:∀ part,(aj x.1.view part).length≤40∧∀ y,y∈aj x.1.view part→0≤y∧y < ((ai f day).af.length:Int):=fun part=>by
    have h:=nd x.1.view part
    rw [pa,PT] at h
    exact ⟨Nat.le_trans h.1 aev,fun y hy=>⟨(h.2 y hy).1,hF.ZU (h.2 y hy).1 (h.2 y hy).2.1 (h.2 y hy).2.2⟩⟩
  have hlg:∀ part i,i < (aj x.1.view part).length→0≤(aj x.1.view part).getD i default∧(aj x.1.view part).getD i default < ((ai f day).af.length:Int):=fun part i hi=>(vc part).2 _ (tK hi _)
  have LZ:∀ part,Sx x.1 (aj x.1.view part):=fun part=>by
    refine ⟨by have:=(vc part).1; omega,fun i hi=>by rw [Jq]; exact hlg part i hi,fun i hi=>?_⟩
    have hs:x.1.view.now.Small:=by rw [Jq]; exact zg bM day
    have hb:x.1.r.cG:=by rw [hxr]; exact cu
    have hr:x.1.r.Small:=by rw [hxr]; exact bN
    exact ⟨hs,hb,hr⟩
  have hol:∀ part k y,(bn x.1 (aj x.1.view part))[k]? = some y→k≤40:=fun part k y h=>by
    have h1:=(List.getElem?_eq_some_iff.1 h).1
    have h2:=BQ x.1 (aj x.1.view part)
    have h3:=(vc part).1
    omega
  have JQ:∀ part b l,(aZ x.1.view part b l).length≤40∧∀ i,i < (aZ x.1.view part b l).length→0≤(aZ x.1.view part b l).getD i default∧(aZ x.1.view part b l).getD i default < ((ai f day).af.length:Int):=fun part b l=>by
    have h:=rS x.1.view part b l
    rw [Jq] at h
    exact ⟨Nat.le_trans h.1 (by omega),fun i hi=>h.2 _ (tK hi _)⟩
  refine ⟨⟨bM,cu,bN⟩,fun hE=>⟨⟨Nat.zero_le _,by simp⟩,fun i hi hm=>⟨fun eC=>⟨⟨by simp only [LN] at eC; omega,fun _=>⟨by rw [pa]; exact bM,fun _ _=>⟨⟨LZ _,by omega,fun k s y hs hy=>?_,?_⟩,?_⟩⟩⟩,?_⟩,?_⟩⟩⟩
  · have hk:=hol _ _ _ hy
    obtain ⟨hn,hg⟩:=JQ (x.1.view.lead.getD i.1 default) y.sign (aj x.1.view (x.1.view.lead.getD i.1 default))
    have yx:∀ (l:List Claim) (c:Claim),(l++[c]).length=l.length+1:=fun l c=>by simp
    have afc:i.2.length≤410000:=by simp only [LN] at eC; omega
    refine ⟨⟨fun _=>⟨⟨⟨Nat.zero_le _,Nat.le_refl _⟩,fun j hj=>⟨fun hc _ _=>⟨fun _ _=>?_,fun _ _ _ _=>?_⟩,fun hc=>?_⟩⟩,fun b hb=>?_⟩,fun b _ hb=>?_⟩,⟨⟨acG.1,by rw [Jq]; omega⟩,fun _=>?_⟩,?_⟩
    · simp only [LN] at hc; exact ⟨⟨by omega,by omega⟩,by omega⟩
    · simp only [LN] at hc; rw [yx]; exact ⟨⟨by omega,by omega⟩,by omega⟩
    · simp only [LN] at hc; omega
    · omega
    · omega
    · have e1:x.1.view.now=ai x.1.view.all x.1.view.day:=by rw [Jq,pa,PT]
      have e2:cm x.1.r x.1.view.all:=by rw [hxr,pa]; exact hF
      have e3:x.1.view.all.Small:=by rw [pa]; exact bM
      have e4:x.1.r.cG:=by rw [hxr]; exact cu
      have e5:x.1.r.Small:=by rw [hxr]; exact bN
      have e6:(aQ r forum f day).length=x.1.view.now.af.length:=by rw [Jq]; exact hE
      have h1:∀ c:Claim,[c].length=1:=fun _=>rfl
      refine ⟨⟨⟨Nat.zero_le _,Nat.le_refl _⟩,fun j hj hm2=>⟨fun hc=>?_,fun hc=>?_⟩⟩,fun b hb=>by omega⟩
      · simp only [LN] at hc
        have hgj:=hg j.1 (by omega)
        rw [← Jq] at hgj
        refine ⟨⟨by omega,by omega⟩,fun _=>⟨hgj,fun _=>⟨⟨e6,hgj,e1,e2,acH,e3,e4,e5⟩,fun _ _=>⟨(aG (by omega) (by omega)).trans (by omega),⟨by omega,by omega⟩,by omega⟩,fun _=>⟨⟨hF,bM,cu,bN,kM,jJ⟩,fun _=>⟨?_,fun _ _=>⟨(aG (by omega) (by omega)).trans (by omega),⟨by omega,?_⟩,by omega⟩⟩⟩⟩⟩⟩
        · rw [h1]; omega
        · rw [yx]; omega
      · simp only [LN] at hc; omega
    · exact fun b _ hb=>by omega
  · intro b hb
    have h2:=BQ x.1 (aj x.1.view (x.1.view.lead.getD i.1 default))
    have h3:=(vc (x.1.view.lead.getD i.1 default)).1
    omega
  · exact fun b _ hb=>hb
  · intro b _ hb _
    simp only [LN] at eC
    exact ⟨(aG (by omega) (by omega)).trans (by omega),⟨by omega,by omega⟩,by omega⟩
  · intro hc
    simp only [LN] at hc
    omega

def Nr r forum f day:=kk tok mixed Tryz.func10 [av r.cells,iv forum,av f.cells,iv day] (fun x=>lv Claim.cells x) false (la r forum f day) (bV r forum f day) (u6 (Bc r forum f day))
theorem Jr (r:ah) (forum:Int) (f:al) (day:Int) (hF:cm r f) (bM:f.Small) (cu:r.cG) (bN:r.Small) (kM:r.iI) (jJ:r.dj):gu Tryz.prog 10 [av r.cells,iv forum,av f.cells,iv day] [] (ow 777777 (bV r forum f day)) [(777777,bO 50 9 Claim.cells (bV r forum f day))] :=
  gu.sk tok mixed (fun x=>ow 777777 x) (fun x=>[(777777,bO 50 9 Claim.cells x)]) Tryz.func10 rfl (by kernel_rfl) 3000 (la r forum f day) (by kernel_rfl) (Bc r forum f day hF bM cu bN kM jJ)
def vC (κ:Nat) (r:ah) (forum:Int) (f:al) (day:Int):iY ((List Claim)):=⟨Tryz.prog,10,[av r.cells,iv forum,av f.cells,iv day],fun x=>ow κ x,fun x=>[(κ,bO 50 9 Claim.cells x)],bV r forum f day,(cm r f)∧(f.Small)∧(r.cG)∧(r.Small)∧(r.iI)∧(r.dj),fun h=>gu.WL κ (Jr r forum f day h.1 h.2.1 h.2.2.1 h.2.2.2.1 h.2.2.2.2.1 h.2.2.2.2.2),fun _=>True,trivial⟩
def ru (s:Sign) (v:bh):Sk (Bool) :=
 .fin (s.dt == v.cj)
def gx s v:=(ru s v).val
theorem ry (s:Sign) (v:bh):gx s v=(s.dt == v.cj):=rfl
theorem K1 (s:Sign) (v:bh):(ru s v).bz (fun _=>True):=by
  unfold ru
  exact pv

def xK s v:=kk tok mixed Tryz.func49 [av s.cells,.ref v.cells] (fun x=>bv x) true (ru s v) (gx s v) (u0 (K1 s v))
def fk (s:List Sign) (v:bh):Sk (Int) :=
 .bind true (fun b1=>∀ q,q < s.length→gx (s.getD q default) v=false)
 (.loop (default:Sum (Int) (Unit)) (fun i2=>∀ q,q < i2→gx (s.getD q default) v=false) (fun i2=>s.length - i2) (0:Nat)
 (fun (i2:Nat)=>⟨[(8,iv ((i2:Nat):Int))],[]⟩) fun i2 =>
 .lt 0 0 i2 s.length
 (.r 4 (.aq (.p (bG ((i2:Nat):Int) s.length)) ((xK (s.getD i2 default) v).c)) fun x3 =>
 .br x3
 (.fin (.inl (.inl ((i2:Nat):Int))))
 (.nx 6 8 i2 (i2+1)))
 (.fin (.inl (.inr ()))))
 (fun (_:Unit)=>⟨[],[]⟩) fun _ =>
 .fin (-1)
def AU s v:=(fk s v).val
theorem wH (s:List Sign) (v:bh):(fk s v).cZ (fun (x:Int)=>(x = -1∧∀ q,q < s.length→gx (s.getD q default) v=false)∨(0≤x∧x < s.length∧gx (s.getD x.toNat default) v=true∧∀ q,(q:Nat) < x.toNat→gx (s.getD q default) v=false)):=by
  unfold fk
  try simp only [xK,ry]
  exact RW

theorem xL (s:List Sign) (v:bh):(fk s v).bz (fun _=>True):=by
  unfold fk
  try simp only [xK,ry]
  exact yn

def ln s v:=kp tok mixed Tryz.func86 [lv Sign.cells s,.fn 49 [.ref v.cells]] (fun x=>iv x) true (AU s v) (u0 (xL s v)) (wH s v)
def dM (s:List Sign) (v:bh):Sk (Bool) :=
 .r 1 ((ln s v).c) fun x1 =>
 .fin (decide (x1≥0))
def kN s v:=(dM s v).val
theorem um (s:List Sign) (v:bh):(dM s v).cZ (fun (x:Bool)=>(x=true↔∃ q,q < s.length∧gx (s.getD q default) v=true)):=by
  unfold dM
  try simp only [ln]
  exact DE

theorem uz (s:List Sign) (v:bh):(dM s v).bz (fun _=>True):=by
  unfold dM
  try simp only [ln]
  exact pv

def ga s v:=kp tok mixed Tryz.func48 [lv Sign.cells s,.fn 49 [.ref v.cells]] (fun x=>bv x) true (kN s v) (u0 (uz s v)) (um s v)
theorem Qr {β Y γ:Type} (g:Y→List β) {f:List β→Y→γ ⊕ List β}:∀ (l:List Y) (s:List β),(∀ s y,y∈l→f s y=.inr (s++g y))→pj f l s=.inr (s++l.flatMap g)
  | [],s,_=>by simp [pj]
  | y :: r,s,h=>by
    simp only [pj,h s y (by simp)]
    rw [Qr g r _ (fun s z hz=>h s z (by simp [hz]))]
    simp
theorem Qs {α β ι δ:Type} [Inhabited α] (l:List α) (g:α→List β) (pack:List β→Nat→ι) {f:ι→δ ⊕ ι} {d:δ} (e:List β→δ)
    (hs:∀ s i,i < l.length→f (pack s i)=.inr (pack (s++g (l.getD i default)) (i+1))) (he:∀ s,f (pack s l.length)=.inl (e s)) {n:Nat} (hn:l.length < n) (s:List β):iter f d n (pack s 0)=e (s++l.flatMap g):=by
  rw [oh (d:=d) l pack (fun x s=>.inr (s++g x)) e hs he hn s,j1 (fun x s=>s++g x) e]
  congr 1
  clear hs he hn
  induction l generalizing s with
  | nil=>simp
  | cons x r ih=>rw [List.foldl_cons,ih]; simp
/-- a lx of an owner by a signature,if there is one -/
def n3 (r:ah) (forum:Int) (f:al) (day:Int) (c:eu) (eff:List cC) (links:List Int) (part:Int) (o:ke) (sign:Int):List Claim :=
  bif (aK c o sign links eff).1 == 0||(c.view.now.af.getD sign.toNat default).dt == o.fA then [] else
  [{ aF:=(c.view.now.af.getD sign.toNat default).dt,ak:=o.fA,part:=part,sign:=sign,cz:=o.sign,dR:=(aK c o sign links eff).2,sum:=(gj r forum f sign day).rest,az:=f.aR.az,state:=(aK c o sign links eff).1 }]
def zJ (r:ah) (forum:Int) (f:al) (day:Int) (c:eu) (eff:List cC):List Claim :=
  c.view.lead.flatMap fun part=>(bn c (aj c.view part)).flatMap fun o=>(aZ c.view part o.sign (aj c.view part)).flatMap fun sign=>n3 r forum f day c eff (aj c.view part) part o sign
theorem wI (r:ah) (forum:Int) (f:al) (day:Int):bV r forum f day=bif !(aC r forum f day).2 then [] else zJ r forum f day (aC r forum f day).1 (aQ r forum f day):=by
  unfold bV la
  dsimp +instances only [Sk.dh,Sk.gd,Sk.iZ,Sk.eQ,Sk.iG,Sk.lU,Sk.cO,Sk.WQ,gn.xS,kk,kp,EC,uc,qI,pV,pX,vB,kJ,bg.pq]
  cases (aC r forum f day).2 with
  | false=>rfl
  | true =>
    simp only [Bool.not_true,cond_false]
    refine Eq.trans (congrArg (fun q=>gI q fun b=>b) (Qs (aC r forum f day).1.view.lead (fun part=>(bn (aC r forum f day).1 (aj (aC r forum f day).1.view part)).flatMap fun o=>(aZ (aC r forum f day).1.view part o.sign (aj (aC r forum f day).1.view part)).flatMap fun sign=>n3 r forum f day (aC r forum f day).1 (aQ r forum f day) (aj (aC r forum f day).1.view part) part o sign) (fun s i=>(i,s)) (fun s=>Sum.inr s) (fun s i hi=>?_) (fun s=>?_) (by simp) [])) ?_
    · dsimp only
      rw [decide_eq_true (by omega),cond_true]
      rw [Qr (fun o=>(aZ (aC r forum f day).1.view ((aC r forum f day).1.view.lead.getD i default) o.sign (aj (aC r forum f day).1.view ((aC r forum f day).1.view.lead.getD i default))).flatMap fun sign=>n3 r forum f day (aC r forum f day).1 (aQ r forum f day) (aj (aC r forum f day).1.view ((aC r forum f day).1.view.lead.getD i default)) ((aC r forum f day).1.view.lead.getD i default) o sign) _ s (fun s y _=>?_)]
      · rfl
      · refine Eq.trans (congrArg (fun q=>gI (gI q _) _) (Qs (aZ (aC r forum f day).1.view ((aC r forum f day).1.view.lead.getD i default) y.sign (aj (aC r forum f day).1.view ((aC r forum f day).1.view.lead.getD i default))) (fun sign=>n3 r forum f day (aC r forum f day).1 (aQ r forum f day) (aj (aC r forum f day).1.view ((aC r forum f day).1.view.lead.getD i default)) ((aC r forum f day).1.view.lead.getD i default) y sign) (fun s i=>(i,s)) (fun s=>Sum.inr (((aZ (aC r forum f day).1.view ((aC r forum f day).1.view.lead.getD i default) y.sign (aj (aC r forum f day).1.view ((aC r forum f day).1.view.lead.getD i default))).length:Int),s)) (fun s k hk=>?_) (fun s=>?_) (by simp) s)) ?_
        · dsimp only
          rw [decide_eq_true (by omega),cond_true]
          unfold n3
          cases (aK (aC r forum f day).1 y ((aZ (aC r forum f day).1.view ((aC r forum f day).1.view.lead.getD i default) y.sign (aj (aC r forum f day).1.view ((aC r forum f day).1.view.lead.getD i default))).getD k default) (aj (aC r forum f day).1.view ((aC r forum f day).1.view.lead.getD i default)) (aQ r forum f day)).1 == 0||((aC r forum f day).1.view.now.af.getD ((aZ (aC r forum f day).1.view ((aC r forum f day).1.view.lead.getD i default) y.sign (aj (aC r forum f day).1.view ((aC r forum f day).1.view.lead.getD i default))).getD k default).toNat default).dt == y.fA with
          | true=>simp only [cond_true,List.append_nil]
          | false=>simp only [cond_false]
        · dsimp only
          rw [decide_eq_false (by omega),cond_false]
        · rfl
    · dsimp only
      rw [decide_eq_false (by omega),cond_false]
    · rw [List.nil_append]
      rfl
theorem u9 {α β:Type} {g:α→List β} {m:Nat}:∀ (l:List α),(∀ x,x∈l→(g x).length≤m)→(l.flatMap g).length≤l.length * m
  | [],_=>by simp
  | x :: r,h=>by
    have h1:=u9 r (fun y hy=>h y (by simp [hy]))
    have h2:=h x (by simp)
    rw [List.flatMap_cons,List.length_append,List.length_cons,Nat.succ_mul]
    omega
theorem SB {r:ah} {forum:Int} {f:al} {day:Int} (hF:cm r f):(bV r forum f day).length≤67240:=by
  rw [wI]
  cases ht:(aC r forum f day).2 with
  | false=>simp
  | true =>
    rw [Bool.not_true,cond_false]
    have he:=(Dj r forum f day ht).1
    have hv:(aC r forum f day).1.view=aB f day:=by rw [he]
    have ho:=A9 f day
    have h40:=hF.2.1.1
    have hk:∀ part,(aj (aB f day) part).length≤40:=fun part=>by
      have h:=(nd (aB f day) part).1
      rw [ho.1] at h
      omega
    unfold zJ
    rw [hv]
    refine Nat.le_trans (u9 (m:=1640) _ fun part _=>Nat.le_trans (u9 (m:=40) _ fun o _=>Nat.le_trans (u9 (m:=1) _ fun s _=>?_) ?_) ?_) ?_
    · unfold n3
      cases (aK (aC r forum f day).1 o s (aj (aB f day) part) (aQ r forum f day)).1 == 0||((aC r forum f day).1.view.now.af.getD s.toNat default).dt == o.fA <;> simp
    · have h:=(rS (aB f day) part o.sign (aj (aB f day) part)).1
      have h2:=mG f day
      rw [ho.2.1] at h
      omega
    · have h:=BQ (aC r forum f day).1 (aj (aB f day) part)
      have h2:=hk part
      omega
    · have h:=ho.2.2.2.2
      omega
/-- how many links lie from one signature to Th -/
def yi (links:List Int) (lo hi:Int):Nat:=(links.filter fun l=>decide (l≤hi)&&decide (l≥lo)).length
def EP (links:List Int) (hi:Int):Nat:=(links.filter fun l=>decide (l≤hi)).length
theorem Va (links:List Int) (lo hi:Int) {i:Nat} (h:i < links.length):yi (links.take (i+1)) lo hi=yi (links.take i) lo hi+(bif decide (links.getD i default≤hi)&&decide (links.getD i default≥lo) then 1 else 0):=by
  unfold yi
  rw [List.take_succ_eq_append_getElem h,List.filter_append,List.length_append,show links.getD i default=links[i] by simp [List.getD,h]]
  congr 1
  cases hc:decide (links[i]≤hi)&&decide (links[i]≥lo) with
  | true=>rw [List.filter_cons_of_pos (by simpa using hc)]; rfl
  | false=>rw [List.filter_cons_of_neg (by simpa using hc)]; rfl
theorem Vb (links:List Int) (hi:Int) {i:Nat} (h:i < links.length):EP (links.take (i+1)) hi=EP (links.take i) hi+(bif decide (links.getD i default≤hi) then 1 else 0):=by
  unfold EP
  rw [List.take_succ_eq_append_getElem h,List.filter_append,List.length_append,show links.getD i default=links[i] by simp [List.getD,h]]
  congr 1
  cases hc:decide (links[i]≤hi) with
  | true=>rw [List.filter_cons_of_pos (by simpa using hc)]; rfl
  | false=>rw [List.filter_cons_of_neg (by simpa using hc)]; rfl
theorem Za (links:List Int) (lo hi:Int):yi links lo hi≤links.length:=List.length_filter_le ..
theorem Zb (links:List Int) (hi:Int):EP links hi≤links.length:=List.length_filter_le ..
def mf (c:eu):Bool:=(c.due != (-1))&&decide (c.view.day≥c.due)
theorem Dx (c:eu) (o:ke) (sign:Int) (links:List Int) (eff:List cC) (hl:links.length≤1000000):aK c o sign links eff =
    bif (c.view.now.af.getD (aw c.view sign).toNat default).kind == 1 then (bif !(mf c) then (0,0) else (eK o.state (eff.getD sign.toNat default).binds,0)) else
    bif ((!(mf c))&&(!(cD c.view.now.aA)))||(!((eff.getD (aw c.view sign).toNat default).eI)) then (0,0) else
    (eK (eK o.state (eff.getD sign.toNat default).binds) (il c.r c.forum c.view.all (aw c.view sign) c.view.day).all,
      bif !(bD links (aw c.view sign)) then (1+(EP links o.sign:Int)) else (yi links (aw c.view sign) o.sign:Int)):=by
  unfold aK im
  dsimp +instances only [Sk.dh,Sk.gd,Sk.iZ,Sk.eQ,Sk.iG,Sk.lU,Sk.cO,gn.xS,kk,kp,bg.pq,bg.Pq,bg.A2,sn,qJ,jI,aJ,qM]
  have acI:∀ d:(Int × Int) ⊕ (Int × Int),iter (fun i5:Int × Int × Nat=>bif decide (((i5.2.2:Nat):Int) < ((links.length:Nat):Int)) then
      (gI (bif decide ((links.getD i5.2.2 default)≤o.sign) then (Sum.inr (au (i5.2.1+1)):(((Int × Int) ⊕ (Int × Int)) ⊕ (Int × Int × Nat)) ⊕ Int) else Sum.inr i5.2.1) fun b6=>bif (decide ((links.getD i5.2.2 default)≤o.sign))&&(decide ((links.getD i5.2.2 default)≥aw c.view sign)) then Sum.inr (au (i5.1+1),b6,i5.2.2+1) else Sum.inr (i5.1,b6,i5.2.2+1))
      else Sum.inl (Sum.inr (i5.1,i5.2.1))) d (links.length - 0+1) (0,1,0)=Sum.inr ((yi links (aw c.view sign) o.sign:Int),1+(EP links o.sign:Int)):=by
    intro d
    refine (Ah links.length (fun n=>((yi (links.take n) (aw c.view sign) o.sign:Int),1+(EP (links.take n) o.sign:Int))) (fun s i=>(s.1,s.2,i)) (fun s=>Sum.inr s) (fun i hi=>?_) ?_ (m:=links.length - 0+1) (by omega)).trans ?_
    · dsimp only
      rw [decide_eq_true (by omega),cond_true,Va links _ _ hi,Vb links _ hi]
      have h1:=Za (links.take i) (aw c.view sign) o.sign
      have h2:=Zb (links.take i) o.sign
      have h3:(links.take i).length≤links.length:=by rw [List.length_take]; exact Nat.min_le_right _ _
      rw [aG (n:=(yi (links.take i) (aw c.view sign) o.sign:Int)+1) (by omega) (by omega),aG (n:=1+(EP (links.take i) o.sign:Int)+1) (by omega) (by omega)]
      cases decide (links.getD i default≤o.sign) with
      | false=>simp [gI]
      | true =>
        cases decide (links.getD i default≥aw c.view sign) with
        | false=>simp [gI]; omega
        | true=>simp [gI]; omega
    · dsimp only
      rw [decide_eq_false (by omega),cond_false]
    · rw [List.take_length]
  cases (c.view.now.af.getD (aw c.view sign).toNat default).kind == 1 with
  | true=>rfl
  | false =>
    simp only [cond_false]
    show (bif ((!(mf c))&&(!(cD c.view.now.aA)))||(!((eff.getD (aw c.view sign).toNat default).eI)) then (0,0) else _)=_
    cases ((!(mf c))&&(!(cD c.view.now.aA)))||(!((eff.getD (aw c.view sign).toNat default).eI)) with
    | true=>rfl
    | false =>
      simp only [cond_false]
      refine (congrArg (fun q=>gI q _) (acI _)).trans ?_
      show gI (bif !(bD links (aw c.view sign)) then Sum.inr (1+(EP links o.sign:Int)) else Sum.inr (yi links (aw c.view sign) o.sign:Int)) _=_
      cases bD links (aw c.view sign) <;> rfl
theorem Jt (a b:Int):eK a b=0∨eK a b=1∨eK a b=2:=by
  have e:eK a b=bif (a == 0)||(b == 0) then 0 else bif (a == 2)||(b == 2) then 2 else 1:=by kernel_rfl
  rw [e]
  cases (a == 0)||(b == 0) <;> cases (a == 2)||(b == 2) <;> simp
theorem Vc (c:eu) (o:ke) (sign:Int) (links:List Int) (eff:List cC) (hl:links.length≤1000000):(aK c o sign links eff).1=0∨(aK c o sign links eff).1=1∨(aK c o sign links eff).1=2:=by
  rw [Dx c o sign links eff hl]
  cases (c.view.now.af.getD (aw c.view sign).toNat default).kind == 1 with
  | true =>
    cases mf c with
    | false=>exact .inl rfl
    | true=>exact Jt _ _
  | false =>
    rw [cond_false]
    cases ((!(mf c))&&(!(cD c.view.now.aA)))||(!((eff.getD (aw c.view sign).toNat default).eI)) with
    | true=>exact .inl rfl
    | false=>exact Jt _ _
theorem BX {r:ah} {forum:Int} {f:al} {day:Int} (h:(aC r forum f day).2=true):(aC r forum f day).1=⟨aB f day,r,forum,cb r forum f day⟩:=(Dj r forum f day h).1
theorem rU (f:al) (day:Int):(aB f day).all=f:=by rw [Aj]
theorem iw (f:al) (day:Int):(aB f day).now=ai f day:=by rw [Aj]
theorem Ju (f:al) (day:Int):(aB f day).day=day:=by rw [Aj]
/-- where a lx comes from -/
structure aa3 (r:ah) (forum:Int) (f:al) (day:Int) (c:Claim) (part:Int) (o:ke) (sign:Int):Prop where
  lead:part∈(aB f day).lead
  own:o∈bn (aC r forum f day).1 (aj (aB f day) part)
  li:sign∈aZ (aB f day) part o.sign (aj (aB f day) part)
  st:(aK (aC r forum f day).1 o sign (aj (aB f day) part) (aQ r forum f day)).1≠0
  ne:((ai f day).af.getD sign.toNat default).dt≠o.fA
  eq:c = { aF:=((ai f day).af.getD sign.toNat default).dt,ak:=o.fA,part:=part,sign:=sign,cz:=o.sign,dR:=(aK (aC r forum f day).1 o sign (aj (aB f day) part) (aQ r forum f day)).2,sum:=(gj r forum f sign day).rest,az:=f.aR.az,state:=(aK (aC r forum f day).1 o sign (aj (aB f day) part) (aQ r forum f day)).1 }
theorem va {r:ah} {forum:Int} {f:al} {day:Int} {c:Claim} (h:c∈bV r forum f day):((aC r forum f day).1=⟨aB f day,r,forum,cb r forum f day⟩)∧∃ part o sign,aa3 r forum f day c part o sign:=by
  rw [wI] at h
  cases ht:(aC r forum f day).2 with
  | false=>rw [ht] at h; cases h
  | true =>
    rw [ht,Bool.not_true,cond_false] at h
    have he:=BX ht
    refine ⟨he,?_⟩
    unfold zJ at h
    have hv:(aC r forum f day).1.view=aB f day:=by rw [he]
    rw [hv] at h
    obtain ⟨part,hp,h⟩:=List.mem_flatMap.1 h
    obtain ⟨o,ho,h⟩:=List.mem_flatMap.1 h
    obtain ⟨sign,hs,h⟩:=List.mem_flatMap.1 h
    unfold n3 at h
    rw [hv,iw] at h
    cases hc:(aK (aC r forum f day).1 o sign (aj (aB f day) part) (aQ r forum f day)).1 == 0||((ai f day).af.getD sign.toNat default).dt == o.fA with
    | true=>rw [hc] at h; cases h
    | false =>
      rw [hc,cond_false,List.mem_singleton] at h
      simp only [Bool.or_eq_false_iff,beq_eq_false_iff_ne,ne_eq] at hc
      exact ⟨part,o,sign,hp,ho,hs,hc.1,hc.2,h⟩
theorem ER {f:al} {day part:Int}:(aj (aB f day) part).length≤f.af.length:=by
  have:=(nd (aB f day) part).1
  rwa [rU] at this
theorem Qt {r:ah} {forum:Int} {f:al} {day:Int} {c:Claim} (hF:cm r f) (hR:r.dj) (h:c∈bV r forum f day) :
    (0≤c.sign∧c.sign < f.af.length)∧(-1≤c.cz∧c.cz < f.af.length)∧c.aF=(f.af.getD c.sign.toNat default).dt∧c.ak=(if 0≤c.cz then (f.af.getD c.cz.toNat default).cj else f.aR.kr) ∧
      c.aF≠c.ak∧(c.state=1∨c.state=2)∧jK c.sum∧c.az=f.aR.az:=by
  obtain ⟨he,part,o,sign,k⟩:=va h
  have hlen:=mG f day
  have hl:=BS k.li
  have hm:=rT hl.2
  rw [iw] at hm
  have hll:(aj (aB f day) part).length≤1000000:=by have:=ER (f:=f) (day:=day) (part:=part); have:=hF.2.1.1; omega
  have hs:=Vc (aC r forum f day).1 o sign (aj (aB f day) part) (aQ r forum f day) hll
  have kj:=k.st
  have ho:=(Jc k.own).1
  have hvn:(aC r forum f day).1.view.now=ai f day:=by rw [he]; exact iw f day
  rw [hvn,P3] at ho
  have Xy:(o.sign = -1∧o.fA=f.aR.kr)∨(0≤o.sign∧o.sign < f.af.length∧o.fA=(f.af.getD o.sign.toNat default).cj):=by
    rcases ho with ho | ⟨h1,h2⟩
    · exact .inl ho
    · have hk:=EM h1
      rw [rU,Ju] at hk
      have Q5:=hF.ZU hk.1 hk.2.1 hk.2.2.2.2.1
      rw [v7 f day _ (by omega)] at h2
      exact .inr ⟨hk.1,hk.2.1,h2⟩
  have DL:gj r forum f sign day=gj r forum f sign day:=rfl
  have aew:=wG r forum f sign day ⟨hF,hR⟩
  obtain rfl:=k.eq
  refine ⟨⟨hm.1,by have:=hm.2.1; show sign < _; omega⟩,?_,?_,?_,k.ne,?_,aew,rfl⟩
  · show -1≤o.sign∧o.sign < _
    rcases Xy with Xy | Xy <;> omega
  · show ((ai f day).af.getD sign.toNat default).dt=_
    rw [v7 f day _ (by omega)]
  · show o.fA=if 0≤o.sign then (f.af.getD o.sign.toNat default).cj else f.aR.kr
    rcases Xy with Xy | Xy
    · rw [if_neg (by omega)]; exact Xy.2
    · rw [if_pos Xy.1]; exact Xy.2.2
  · show (aK _ _ _ _ _).1=1∨_
    rcases hs with hs | hs | hs
    · exact absurd hs kj
    · exact .inl hs
    · exact .inr hs
theorem Qu (r:ah) (forum:Int) (f:al) (day:Int):(bV r forum f day).Pairwise (fun a b=>¬ (a.part=b.part∧a.sign=b.sign∧a.cz=b.cz)):=by
  rw [wI]
  cases ht:(aC r forum f day).2 with
  | false=>exact List.Pairwise.nil
  | true =>
    rw [Bool.not_true,cond_false]
    have he:=BX ht
    have hv:(aC r forum f day).1.view=aB f day:=by rw [he]
    have key:∀ part o sign c,c∈n3 r forum f day (aC r forum f day).1 (aQ r forum f day) (aj (aB f day) part) part o sign→c.part=part∧c.cz=o.sign∧c.sign=sign:=fun part o sign c h=>by
      unfold n3 at h
      cases hc:(aK (aC r forum f day).1 o sign (aj (aB f day) part) (aQ r forum f day)).1 == 0||((aC r forum f day).1.view.now.af.getD sign.toNat default).dt == o.fA with
      | true=>rw [hc] at h; cases h
      | false=>rw [hc,cond_false,List.mem_singleton] at h; subst h; exact ⟨rfl,rfl,rfl⟩
    have Zc:∀ part o c,c∈((aZ (aB f day) part o.sign (aj (aB f day) part)).flatMap fun sign=>n3 r forum f day (aC r forum f day).1 (aQ r forum f day) (aj (aB f day) part) part o sign)→c.part=part∧c.cz=o.sign:=fun part o c h=>by
      obtain ⟨s,_,h⟩:=List.mem_flatMap.1 h
      exact ⟨(key _ _ _ _ h).1,(key _ _ _ _ h).2.1⟩
    unfold zJ
    rw [hv,List.pairwise_flatMap]
    refine ⟨fun part _=>?_,(Qn f day).imp (fun {a b} Zy x hx y hy h=>?_)⟩
    · rw [List.pairwise_flatMap]
      refine ⟨fun o _=>?_,(Nl (fun y hy=>(EM hy).1) (Nk _ _)).imp (fun {a b} Zy x hx y hy h=>?_)⟩
      · rw [List.pairwise_flatMap]
        refine ⟨fun s _=>?_,(KT _ _ _ _).imp (fun {a b} Zy x hx y hy h=>?_)⟩
        · unfold n3
          cases (aK (aC r forum f day).1 o s (aj (aB f day) part) (aQ r forum f day)).1 == 0||((aC r forum f day).1.view.now.af.getD s.toNat default).dt == o.fA <;> simp
        · have h1:=(key _ _ _ _ hx).2.2
          have h2:=(key _ _ _ _ hy).2.2
          omega
      · have h1:=(Zc _ _ _ hx).2
        have h2:=(Zc _ _ _ hy).2
        omega
    · obtain ⟨o,_,hx⟩:=List.mem_flatMap.1 hx
      obtain ⟨o',_,hy⟩:=List.mem_flatMap.1 hy
      have h1:=(Zc _ _ _ hx).1
      have h2:=(Zc _ _ _ hy).1
      omega
/-- an act VH is a adf -/
def Ns (g:al) (a:bh):Prop:=a.kind=6∧0≤a.at_∧a.at_ < (g.af.length:Int)
def TU (g:al) (st:Bool) (cj:Int):Prop:=st=true↔∀ q,q < g.af.length→(g.af.getD q default).dt≠cj
/-- Ol aex after Ol first k aA -/
inductive AW (g:al) (l0:List Claim):Nat→List Claim→Prop
  | zero:AW g l0 0 l0
  | skip {k:Nat} {l:List Claim}:AW g l0 k l→k < g.aA.length→¬ Ns g (g.aA.getD k default)→AW g l0 (k+1) l
  | yo {k:Nat} {l out:List Claim} {st:Bool}:AW g l0 k l→k < g.aA.length→Ns g (g.aA.getD k default)→TU g st (g.aA.getD k default).cj→xe l (g.aA.getD k default) st out→AW g l0 (k+1) out
theorem Xz {x y:Claim} (h:yS x y):Oa x=Oa y:=by simp only [Oa,h.1.1,h.1.2.2.1,h.1.2.2.2.1]
theorem AW.Oa {g:al} {l0 l:List Claim} {k:Nat} (h:AW g l0 k l):∀ x∈l,Oa x∈l0.map Oa:=by
  induction h with
  | zero=>exact fun x hx=>List.mem_map.2 ⟨x,hx,rfl⟩
  | skip _ _ _ ih=>exact ih
  | @yo k l out st h _ _ _ ha ih =>
    intro x hx
    obtain ⟨i,hi,rfl⟩:=List.getElem_of_mem hx
    have e:out[i]=out.getD i default:=by simp [List.getD,hi]
    rw [e]
    by_cases h1:i < l.length
    · rw [Xz (ha.old i h1).1]
      exact ih _ (j2 h1)
    · obtain ⟨-,-,-,x,hx,e1,e2,e3,-⟩:=ha.new i (by omega) hi
      have:=ih x hx
      rwa [show Go.Proofs.YtgmnlkccjlnnbaaGreatDoor.Oa (out.getD i default)=Go.Proofs.YtgmnlkccjlnnbaaGreatDoor.Oa x by simp only [Go.Proofs.YtgmnlkccjlnnbaaGreatDoor.Oa,e1,e2,e3]]
theorem AW.count {g:al} {l0 l:List Claim} {k:Nat} (h:AW g l0 k l):l.length≤l0.length+k * l0.length∧k≤g.aA.length:=by
  induction h with
  | zero=>simp
  | skip _ _ _ ih=>exact ⟨by rw [Nat.succ_mul]; omega,by omega⟩
  | yo h _ _ _ ha ih =>
    have:=ha.few _ h.Oa
    rw [List.length_map] at this
    exact ⟨by rw [Nat.succ_mul]; omega,by omega⟩
theorem Jv {g:al} {x:Bool} {t:Int} {p:Sign→Bool} (hp:∀ s,p s=true↔s.dt=t) (h:x=true↔∃ q,q < g.af.length∧p (g.af.getD q default)=true):TU g (!x) t:=by
  constructor
  · intro hx q hq e
    have:=h.2 ⟨q,hq,(hp _).2 e⟩
    rw [this] at hx
    cases hx
  · intro hq
    cases hx:x with
    | false=>rfl
    | true =>
      obtain ⟨q,h1,h2⟩:=h.1 hx
      exact absurd ((hp _).1 h2) (hq q h1)
theorem TV {g:al} {a:bh} (h:((a.kind != 6)||decide (a.at_ < 0)||decide (a.at_≥((g.af.length:Nat):Int)))=true):¬ Ns g a:=by
  rintro ⟨h1,h2,h3⟩
  simp only [Bool.or_eq_true,bne_iff_ne,decide_eq_true_eq] at h
  rcases h with (h | h) | h
  · exact h h1
  · omega
  · omega
theorem SC {g:al} {a:bh} (h:((a.kind != 6)||decide (a.at_ < 0)||decide (a.at_≥((g.af.length:Nat):Int)))=false):Ns g a:=by
  simp only [Bool.or_eq_false_iff,bne_eq_false_iff_eq,decide_eq_false_iff_not] at h
  exact ⟨h.1.1,by omega,by omega⟩
def oz (r:ah) (forum:Int) (f:al) (day:Int):Sk ((List Claim) × Unit) :=
 .r 1 ((ch f day).c) fun x1 =>
 .r 2 ((vC 29 r forum f day).c) fun x2 =>
 .r 3 (.o [.rz (mkM dI)]) fun _ =>
 .cl 30 ([]:List (Int × Int)) <|
 .bind true (fun b3=>AW x1 x2 x1.aA.length b3)
 (.loop (default:Sum ((List Claim) × Unit) ((List Claim))) (fun i4=>i4.2≤x1.aA.length∧AW x1 x2 i4.2 i4.1) (fun i4=>x1.aA.length - i4.2) ((x2,0):(List Claim) × Nat)
 (fun (i4:(List Claim) × Nat)=>⟨[(11,ow 100006 i4.1),(34,iv ((i4.2:Nat):Int))],[(100006,bO 50 9 Claim.cells i4.1)]⟩) fun i4 =>
 .lt 32 0 i4.2 x1.aA.length
 (.bind true (fun b5=>AW x1 x2 (i4.2+1) b5)
 (.r 6 (.p (bG ((i4.2:Nat):Int) x1.aA.length)) fun _ =>
 .br (((((x1.aA.getD i4.2 default).kind) != 6)||(decide (((x1.aA.getD i4.2 default).at_) < 0)))||(decide (((x1.aA.getD i4.2 default).at_)≥((x1.af.length:Nat):Int))))
 (.fin (.inr i4.1))
 (.r 8 ((ga x1.af (x1.aA.getD i4.2 default)).c) fun x6 =>
 .fz 100006 <|
 .r 9 (.aq (.p (bG ((x1.aA.getD i4.2 default).at_) x1.af.length)) ((sO 70 i4.1 (x1.aA.getD i4.2 default) ((x1.af.getD (((x1.aA.getD i4.2 default).at_).toNat) default).kind) (!x6)).c)) fun x7 =>
 .r 10 (.o [.rz (mkM dB)]) fun _ =>
 .bt
 (.loop (default:Sum (Sum (Sum (Sum ((List Claim) × Unit) ((List Claim))) ((List Claim) × Nat)) ((List Claim))) (Int × (List (Int × Bool)))) (fun i9=>i9.1≤x7.2.length) (fun i9=>x7.2.length - i9.1) ((0,([]:List (Int × Bool))):Nat × (List (Int × Bool)))
 (fun (i9:Nat × (List (Int × Bool)))=>⟨[(76,iv ((i9.1:Nat):Int))],[(73,mpM dB i9.2)]⟩) fun i9 =>
 .lt 17 0 i9.1 x7.2.length
 (.r 13 (.p (bG ((i9.1:Nat):Int) x7.2.length)) fun _ =>
 .r 14 (.aq (.t (E7 dB i9.2)) (.o [.rz (YQ dB i9.2 ((x7.2.getD i9.1 default).ak) true)])) fun _ =>
 .r 15 .z fun _ =>
 .wi 76 (au (((i9.1:Nat):Int)+1)) ((i9.1+1:Nat):Int) <|
 .fin (.inr (i9.1+1,sJ i9.2 ((x7.2.getD i9.1 default).ak) true)))
 (.fin (.inl (.inr (((i9.1:Nat):Int),i9.2)))))
 (fun (b8:Int × (List (Int × Bool)))=>⟨[(76,iv b8.1)],[(73,mpM dB b8.2)]⟩) fun b8 =>
 .bt
 (.mr b8.2.length (fun _=>True) (():Unit)
 (fun g11 s13=>⟨[],[(85,.it 73 b8.2.length s13)]⟩)
 (fun g15=>⟨[],[]⟩)
 (fun g11 i12 =>
 .JU <|
 .r 18 (.p (i12 < b8.2.length)) fun _ =>
 .op 30 fun m14 =>
 .r 19 (.aq (.aq (.t (E7 dI m14)) (.o [.cast 94 (getM dI m14 ((b8.2.getD i12 default).1) (0:Int))])) (.aq (.t (E7 dI m14)) (.o [.rz (YQ dI m14 ((b8.2.getD i12 default).1) (bL 1099511627776 (au ((Cy m14 ((b8.2.getD i12 default).1) (0:Int))+((x1.aA.getD i4.2 default).sum)))))]))) fun _ =>
 .cl 30 (sJ m14 ((b8.2.getD i12 default).1) (bL 1099511627776 (au ((Cy m14 ((b8.2.getD i12 default).1) (0:Int))+((x1.aA.getD i4.2 default).sum))))) <|
 .fin ()) fun g15 =>
 .JV <|
 .fin (.inr ()))
 (fun (_:Unit)=>⟨[(85,.any)],[]⟩) fun _ =>
 .fin (.inr x7.1)))
 (fun (b5:(List Claim))=>⟨[(11,ow 100008 b5)],[(100008,bO 50 9 Claim.cells b5)]⟩) fun b5 =>
 .nx 21 34 i4.2 (b5,i4.2+1))
 (.fin (.inl (.inr i4.1))))
 (fun (b3:(List Claim))=>⟨[(11,ow 100004 b3)],[(100004,bO 50 9 Claim.cells b3)]⟩) fun b3 =>
 .fin (b3,())
def Ao r forum f day:=(oz r forum f day).val
theorem Qv (r:ah) (forum:Int) (f:al) (day:Int):(oz r forum f day).cZ (fun (x:(List Claim) × Unit)=>AW (ai f day) (bV r forum f day) (ai f day).aA.length x.1):=by
  refine Sk.bp _ ?_
  unfold oz
  simp only [Sk.cV,Sk.aO,reduceCtorEq,ON,kk,kp,vC,sO,ch,ga,maxLen]
  intro x hx _ x1 JT _
  refine ⟨⟨⟨Nat.zero_le _,.zero⟩,fun i hi=>⟨fun hc=>⟨fun _=>⟨fun hs=>?_,fun hs x4 _ h4 x5 _ h5 _=>⟨⟨Nat.zero_le _,fun j hj DN _ _ _=>?_⟩,fun b b1 _=>?_⟩⟩,fun b _ hb _=>?_⟩,fun hc=>?_⟩⟩,fun b hb=>?_⟩
  all_goals try simp only [LN] at hc
  · exact hi.2.skip (by omega) (TV hs)
  · simp only [LN] at DN
    omega
  · exact hi.2.yo (by omega) (SC hs) (Jv (p:=fun s=>gx s (x.aA.getD i.2 default)) (fun s=>by show gx s _=true↔_; rw [ry,beq_iff_eq]) h4) h5
  · exact ⟨⟨by omega,hb⟩,by omega⟩
  · have e:i.2=x.aA.length:=by omega
    rw [← e]
    exact hi.2
  · subst hx JT
    exact hb

theorem Nt (r:ah) (forum:Int) (f:al) (day:Int):(fun (x:(List Claim) × Unit)=>AW (ai f day) (bV r forum f day) (ai f day).aA.length x.1) (Ao r forum f day):=have h:=Sk.de _ (Qv r forum f day); h
theorem SD (r:ah) (forum:Int) (f:al) (day:Int) (hF:cm r f) (bM:f.Small) (cu:r.cG) (bN:r.Small) (kM:r.iI) (jJ:r.dj):(oz r forum f day).bz (fun _=>True):=by
  refine Sk.aX _ ?_
  unfold oz
  simp only [Sk.kq,Sk.aO,reduceCtorEq,ON,kk,kp,Sk.cZ,vC,sO,ch,ga,maxLen]
  refine ⟨bM,fun x hx hl=>⟨⟨hF,bM,cu,bN,kM,jJ⟩,fun x1 JT _=>⟨⟨Nat.zero_le _,.zero⟩,fun i hi Vw=>⟨fun hc=>⟨⟨?_,fun _=>⟨fun hs=>?_,fun hs x4 _ h4=>⟨⟨?_,?_⟩,fun x5 _ h5 _=>⟨⟨Nat.zero_le _,fun j hj hm2 DN=>?_⟩,fun b=>⟨fun _ _ h=>h,fun b1 _=>?_⟩⟩⟩⟩⟩,fun b _ hb _=>?_⟩,fun hc=>?_⟩⟩⟩⟩
  all_goals try simp only [LN] at hc
  · exact ⟨by omega,by omega⟩
  · exact hi.2.skip (by omega) (TV hs)
  · exact (SC hs).2
  · have h1:=hi.2.count.1
    have h2:x1.length≤67240:=by rw [JT]; exact SB hF
    have h3:=hF.2.1.2.2.2.1
    have h4:=Nat.mul_le_mul (show i.2≤100 by omega) h2
    omega
  · simp only [LN] at DN
    exact ⟨⟨by omega,by omega⟩,fun _ _ _=>⟨(aG (by omega) (by omega)).trans (by omega),by omega,by omega⟩⟩
  · exact hi.2.yo (by omega) (SC hs) (Jv (p:=fun s=>gx s (x.aA.getD i.2 default)) (fun s=>by show gx s _=true↔_; rw [ry,beq_iff_eq]) h4) h5
  · exact ⟨(aG (by omega) (by omega)).trans (by omega),⟨by omega,hb⟩,by omega⟩
  · have e:i.2=x.aA.length:=by omega
    rw [← e]
    exact hi.2

theorem Qw (r:ah) (forum:Int) (f:al) (day:Int) (hF:cm r f) (bM:f.Small) (cu:r.cG) (bN:r.Small) (kM:r.iI) (jJ:r.dj):gu Tryz.prog 18 [av r.cells,iv forum,av f.cells,iv day] [] (.fL [ow 777777 (Ao r forum f day).1,.any]) [(777777,bO 50 9 Claim.cells (Ao r forum f day).1)] :=
  gu.sk tok mixed (fun x=>.fL [ow 777777 x.1,.any]) (fun x=>[(777777,bO 50 9 Claim.cells x.1)]) Tryz.func18 rfl (by kernel_rfl) 3000 (oz r forum f day) (by kernel_rfl) (SD r forum f day hF bM cu bN kM jJ)
def BZ (κ:Nat) (r:ah) (forum:Int) (f:al) (day:Int):iY ((List Claim) × Unit):=⟨Tryz.prog,18,[av r.cells,iv forum,av f.cells,iv day],fun x=>.fL [ow κ x.1,.any],fun x=>[(κ,bO 50 9 Claim.cells x.1)],Ao r forum f day,(cm r f)∧(f.Small)∧(r.cG)∧(r.Small)∧(r.iI)∧(r.dj),fun h=>gu.WM κ rfl (Qw r forum f day h.1 h.2.1 h.2.2.1 h.2.2.2.1 h.2.2.2.2.1 h.2.2.2.2.2),fun (x:(List Claim) × Unit)=>AW (ai f day) (bV r forum f day) (ai f day).aA.length x.1,Nt r forum f day⟩
def nG (r:ah) (forum:Int) (f:al) (day:Int):Sk ((List Claim)) :=
 .r 1 ((BZ 16 r forum f day).c) fun x1 =>
 .fin x1.1
def oA r forum f day:=(nG r forum f day).val
theorem Jw (r:ah) (forum:Int) (f:al) (day:Int):(nG r forum f day).cZ (fun (x:(List Claim))=>AW (ai f day) (bV r forum f day) (ai f day).aA.length x):=by
  unfold nG
  try simp only [BZ]
  exact DE

theorem K2 (r:ah) (forum:Int) (f:al) (day:Int) (hF:cm r f) (bM:f.Small) (cu:r.cG) (bN:r.Small) (kM:r.iI) (jJ:r.dj):(nG r forum f day).bz (fun _=>True):=by
  unfold nG
  try simp only [BZ]
  exact oj

def s9 r forum f day:=kp tok mixed Tryz.func8 [av r.cells,iv forum,av f.cells,iv day] (fun x=>lv Claim.cells x) false (oA r forum f day) (u6 (K2 r forum f day)) (Jw r forum f day)
end
end Go.Proofs.YtgmnlkccjlnnbaaGreatDoor
