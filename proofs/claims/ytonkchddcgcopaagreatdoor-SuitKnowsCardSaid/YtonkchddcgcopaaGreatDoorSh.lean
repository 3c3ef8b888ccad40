/- Functions, as sketches. -/
import Derived.Test.YtonkchddcgcopaaGreatDoorSg
set_option linter.unusedSimpArgs false
set_option linter.unusedVariables false
set_option maxHeartbeats 1000000
set_option maxRecDepth 100000
namespace Go.Proofs.YtonkchddcgcopaaGreatDoor
noncomputable section
open Go Go.Av
/-- half a UL: I8 agU in two aeH,I8 first one adM; a digit follows -/
def HY (y1 y0 u d:Int):Prop:=(2147483648≤y1∧y1 < 4294967296)∧(0≤y0∧y0 < 4294967296)∧(0≤u∧u < y1 * 4294967296+y0)∧0≤d∧d < 4294967296
/-- a quotient VS may be too adM -/
def HI (y1 y0 u d q r:Int):Prop:=(0≤q∧q < 18446744073709551616)∧q * y1+r=u∧(0≤r∧r < 4294967296)∧u * 4294967296+d < 4294967296 * (q * y1)+4294967296 * y1+q * y0+y0
/-- I8 quotient -/
def HQ (y1 y0 u d q:Int):Prop:=(0≤q∧q < 4294967296)∧4294967296 * (q * y1)+q * y0≤u * 4294967296+d∧u * 4294967296+d < 4294967296 * (q * y1)+4294967296 * y1+q * y0+y0
theorem Dh {y1 y0 u d:Int} (h:HY y1 y0 u d):HI y1 y0 u d (IntKind.u64.wrap (u.tdiv y1)) (IntKind.u64.wrap (u - IntKind.u64.wrap (IntKind.u64.wrap (u.tdiv y1) * y1))):=by
  obtain ⟨h1,h2,h3,h4⟩:=h
  have e:u.tdiv y1=u / y1:=Int.tdiv_eq_ediv_of_nonneg h3.1
  have q0:0≤u / y1:=Int.ediv_nonneg h3.1 (by omega)
  have q1:u / y1≤u:=Int.ediv_le_self _ h3.1
  have m1:=Int.mul_ediv_add_emod u y1
  have m2:=Int.emod_nonneg u (b:=y1) (by omega)
  have m3:=Int.emod_lt_of_pos u (b:=y1) (by omega)
  rw [e,eu q0 (by omega)]
  rw [Int.mul_comm y1] at m1
  rw [eu (n:=u / y1 * y1) (Int.mul_nonneg q0 (by omega)) (by omega),eu (by omega) (by omega)]
  have:=Int.mul_nonneg q0 h2.1
  refine ⟨⟨q0,by omega⟩,by omega,⟨by omega,by omega⟩,by omega⟩
theorem Qn {y1 y0 u d q r:Int} (h:HY y1 y0 u d) (hi:HI y1 y0 u d q r):(decide (q≥4294967296)||decide (IntKind.u64.wrap (q * y0) > IntKind.u64.wrap (IntKind.u64.wrap (4294967296 * r)+d)))=decide (q≥4294967296∨q * y0 > 4294967296 * r+d):=by
  obtain ⟨h1,h2,h3,h4⟩:=h
  obtain ⟨i1,i2,i3,i4⟩:=hi
  rw [eu (n:=4294967296 * r) (by omega) (by omega),eu (n:=4294967296 * r+d) (by omega) (by omega)]
  by_cases c:q≥4294967296
  · simp [c]
  · have a:q * y0≤4294967295 * y0:=Int.mul_le_mul_of_nonneg_right (by omega) h2.1
    rw [eu (n:=q * y0) (Int.mul_nonneg i1.1 h2.1) (by omega)]
    simp [c]
theorem Di {y1 y0 u d q r:Int} (h:HY y1 y0 u d) (hi:HI y1 y0 u d q r) (hc:(decide (q≥4294967296)||decide (IntKind.u64.wrap (q * y0) > IntKind.u64.wrap (IntKind.u64.wrap (4294967296 * r)+d)))=true) :
    (IntKind.u64.wrap (q - 1)).toNat < q.toNat∧(IntKind.u64.wrap (r+y1)≥4294967296→HQ y1 y0 u d (IntKind.u64.wrap (q - 1)))∧(IntKind.u64.wrap (r+y1) < 4294967296→HI y1 y0 u d (IntKind.u64.wrap (q - 1)) (IntKind.u64.wrap (r+y1))):=by
  rw [Qn h hi,decide_eq_true_eq] at hc
  obtain ⟨h1,h2,h3,h4⟩:=h
  obtain ⟨i1,i2,i3,i4⟩:=hi
  have hy:u * 4294967296+d < 4294967296 * (q * y1)+q * y0:=by
    rcases hc with c | c
    · have a:4294967296 * y1≤q * y1:=Int.mul_le_mul_of_nonneg_right c (by omega)
      have b:4294967296 * y0≤q * y0:=Int.mul_le_mul_of_nonneg_right c h2.1
      omega
    · omega
  have hq:1≤q:=by
    rcases Int.lt_or_le q 1 with c | c
    · obtain rfl:q=0:=by omega
      simp only [Int.zero_mul] at hy i2
      omega
    · exact c
  have e1:(q - 1) * y1=q * y1 - y1:=by rw [Int.sub_mul,Int.one_mul]
  have e0:(q - 1) * y0=q * y0 - y0:=by rw [Int.sub_mul,Int.one_mul]
  rw [eu (n:=q - 1) (by omega) (by omega),eu (n:=r+y1) (by omega) (by omega)]
  refine ⟨by omega,fun hr=>?_,fun hr=>?_⟩
  · have hB:q - 1 < 4294967296:=by
      rcases Int.lt_or_le (q - 1) 4294967296 with c | c
      · exact c
      · have a:4294967296 * y1≤(q - 1) * y1:=Int.mul_le_mul_of_nonneg_right c (by omega)
        omega
    have a:(q - 1) * y0≤4294967295 * y0:=Int.mul_le_mul_of_nonneg_right (by omega) h2.1
    refine ⟨⟨by omega,hB⟩,?_,?_⟩
    · rw [e1]; omega
    · rw [e1,e0]; omega
  · refine ⟨⟨by omega,by omega⟩,by rw [e1]; omega,⟨by omega,hr⟩,by rw [e1,e0]; omega⟩
theorem Dj {y1 y0 u d q r:Int} (h:HY y1 y0 u d) (hi:HI y1 y0 u d q r) (hc:(decide (q≥4294967296)||decide (IntKind.u64.wrap (q * y0) > IntKind.u64.wrap (IntKind.u64.wrap (4294967296 * r)+d)))=false):HQ y1 y0 u d q:=by
  rw [Qn h hi,decide_eq_false_iff_not] at hc
  obtain ⟨i1,i2,i3,i4⟩:=hi
  exact ⟨by omega,by omega,i4⟩
/-- YD is left -/
theorem zB {y1 y0 u d q:Int} (h:HY y1 y0 u d) (hq:HQ y1 y0 u d q):IntKind.u64.wrap (IntKind.u64.wrap (IntKind.u64.wrap (u * 4294967296)+d) - IntKind.u64.wrap (q * (y1 * 4294967296+y0)))=u * 4294967296+d - q * (y1 * 4294967296+y0)∧0≤u * 4294967296+d - q * (y1 * 4294967296+y0)∧u * 4294967296+d - q * (y1 * 4294967296+y0) < y1 * 4294967296+y0:=by
  obtain ⟨h1,h2,h3,h4⟩:=h
  obtain ⟨i1,i2,i3⟩:=hq
  have e:q * (y1 * 4294967296+y0)=4294967296 * (q * y1)+q * y0:=by rw [Int.mul_add,← Int.mul_assoc,Int.mul_comm (q * y1)]
  refine ⟨?_,by omega,by omega⟩
  simp only [LK]
  omega
theorem aeI {k:Nat} {q b:Int} (hq:0≤q) (hb:0≤b) (GK:b < 2 ^ k) (ha:q * 2 ^ k+b < 18446744073709551616):VN .u64 (q * 2 ^ k) b=q * 2 ^ k+b:=by
  obtain ⟨q,rfl⟩:=Int.eq_ofNat_of_zero_le hq
  obtain ⟨b,rfl⟩:=Int.eq_ofNat_of_zero_le hb
  have e:((q:Int) * 2 ^ k)=((q * 2 ^ k:Nat):Int):=by simp
  have Z0:b < 2 ^ k:=by
    have e2:((2:Int) ^ k)=((2 ^ k:Nat):Int):=by simp
    rw [e2] at GK
    exact_mod_cast GK
  rw [e] at ha ⊢
  unfold VN
  have gI:q * 2 ^ k+b < 18446744073709551616:=by omega
  have h1:(BitVec.ofInt IntKind.u64.bits ((q * 2 ^ k:Nat):Int) ||| BitVec.ofInt IntKind.u64.bits ((b:Nat):Int)).toNat=q * 2 ^ k+b:=by
    rw [BitVec.toNat_or,BitVec.ofInt_natCast,BitVec.ofInt_natCast,BitVec.toNat_ofNat,BitVec.toNat_ofNat]
    have hb:IntKind.u64.bits=64:=rfl
    rw [hb,Nat.mod_eq_of_lt (by omega),Nat.mod_eq_of_lt (by omega),← Nat.shiftLeft_eq,← Nat.shiftLeft_add_eq_or_of_lt Z0,Nat.shiftLeft_eq]
  rw [h1,eu (by omega) (by omega)]
  omega
theorem KI {a:Int} (h0:0≤a) (h1:a < 18446744073709551616):eJ .u64 a 4294967295=a % 4294967296:=by
  obtain ⟨a,rfl⟩:=Int.eq_ofNat_of_zero_le h0
  unfold eJ
  have h2:(BitVec.ofInt IntKind.u64.bits ((a:Nat):Int) &&& BitVec.ofInt IntKind.u64.bits 4294967295).toNat=a % 4294967296:=by
    have e:(4294967295:Int)=((4294967295:Nat):Int):=rfl
    rw [e,BitVec.toNat_and,BitVec.ofInt_natCast,BitVec.ofInt_natCast,BitVec.toNat_ofNat,BitVec.toNat_ofNat]
    have hb:IntKind.u64.bits=64:=rfl
    rw [hb,Nat.mod_eq_of_lt (by omega),Nat.mod_eq_of_lt (by omega)]
    exact Nat.and_two_pow_sub_one_eq_mod a 32
  rw [h2,eu (by omega) (by omega)]
  omega
/-- I8 parts of a UL,made adM -/
theorem Qo {hi lo y s:Int} (hy:0≤hi∧hi < y∧y < 18446744073709551616∧0≤lo∧lo < 18446744073709551616) (hs:0≤s∧s≤63∧9223372036854775808≤y * 2 ^ s.toNat∧y * 2 ^ s.toNat < 18446744073709551616) :
    ∃ U L:Int,VN .u64 (gb .u64 hi (IntKind.u64.wrap s)) (ep .u64 lo (IntKind.u64.wrap ((64:Int) - IntKind.u64.wrap s)))=U∧gb .u64 lo (IntKind.u64.wrap s)=L∧gb .u64 y (IntKind.u64.wrap s)=y * 2 ^ s.toNat ∧
      (0≤L∧L < 18446744073709551616)∧(0≤U∧U < y * 2 ^ s.toNat)∧(hi * 18446744073709551616+lo) * 2 ^ s.toNat=U * 18446744073709551616+L:=by
  obtain ⟨h1,h2,h3,h4,h5⟩:=hy
  obtain ⟨s1,s2,s3,s4⟩:=hs
  have ew:IntKind.u64.wrap s=s:=eu s1 (by omega)
  have ew2:IntKind.u64.wrap (64 - s)=64 - s:=eu (by omega) (by omega)
  rw [ew,ew2,Wv (by omega),Wv (by omega),Wv (by omega),G8 .u64 (b:=64 - s) (by show 0≤64 - s∧64 - s≤64; omega)]
  generalize hp:(2:Int) ^ s.toNat=p at *
  have hP:(18446744073709551616:Int)=2 ^ (64 - s).toNat * p:=by rw [← hp,← Int.pow_add,show (64 - s).toNat+s.toNat=64 by omega]; rfl
  generalize hq:(2:Int) ^ (64 - s).toNat=P at *
  have p0:0 < p:=by rw [← hp]; exact Int.pow_pos (by omega)
  have P0:0 < P:=by rw [← hq]; exact Int.pow_pos (by omega)
  have hip:hi * p≤(y - 1) * p:=Int.mul_le_mul_of_nonneg_right (by omega) (by omega)
  have ah9:0≤hi * p:=Int.mul_nonneg h1 (by omega)
  have e1:(y - 1) * p=y * p - p:=by rw [Int.sub_mul,Int.one_mul]
  have b0:0≤lo / P:=Int.ediv_nonneg h4 (by omega)
  have b1:lo / P < p:=by
    rw [Int.ediv_lt_iff_lt_mul P0,Int.mul_comm]
    omega
  have eh:hi * p % 18446744073709551616=hi * p:=Int.emod_eq_of_lt ah9 (by omega)
  have ey:y * p % 18446744073709551616=y * p:=Int.emod_eq_of_lt (by omega) s4
  have el:lo * p / 18446744073709551616=lo / P:=by rw [hP]; exact Int.mul_ediv_mul_of_pos_left _ _ p0
  have hor:VN .u64 (hi * p) (lo / P)=hi * p+lo / P:=by
    rw [← hp]
    exact aeI h1 b0 (by rw [hp]; exact b1) (by rw [hp]; omega)
  refine ⟨hi * p+lo / P,lo * p % 18446744073709551616,by rw [eh]; exact hor,rfl,ey,⟨by omega,by omega⟩,⟨by omega,by omega⟩,?_⟩
  have m:=Int.mul_ediv_add_emod (lo * p) 18446744073709551616
  rw [el] at m
  have e2:(hi * 18446744073709551616+lo) * p=hi * p * 18446744073709551616+lo * p:=by rw [Int.add_mul,Int.mul_right_comm]
  rw [e2]
  omega
/-- I8 whole UL out of its aeH -/
theorem Zw {N y p U L q1 q0:Int} (hy:0 < y) (hp:0 < p) (hY:9223372036854775808≤y * p∧y * p < 18446744073709551616) (hL:0≤L∧L < 18446744073709551616) (hU:0≤U∧U < y * p) (hN:N * p=U * 18446744073709551616+L)
    (h1:HQ (y * p / 4294967296) (y * p % 4294967296) U (L / 4294967296) q1)
    (h0:HQ (y * p / 4294967296) (y * p % 4294967296) (U * 4294967296+L / 4294967296 - q1 * (y * p)) (L % 4294967296) q0) :
    IntKind.u64.wrap (IntKind.u64.wrap (q1 * 4294967296)+q0)=N / y ∧
      ((U * 4294967296+L / 4294967296 - q1 * (y * p)) * 4294967296+L % 4294967296 - q0 * (y * p)) / p=N % y:=by
  have eY:y * p / 4294967296 * 4294967296+y * p % 4294967296=y * p:=by omega
  have Yc:HY (y * p / 4294967296) (y * p % 4294967296) U (L / 4294967296):=⟨⟨by omega,by omega⟩,⟨by omega,by omega⟩,⟨by omega,by omega⟩,by omega,by omega⟩
  have r1:=zB Yc h1
  rw [eY] at r1
  have V0:HY (y * p / 4294967296) (y * p % 4294967296) (U * 4294967296+L / 4294967296 - q1 * (y * p)) (L % 4294967296):=⟨⟨by omega,by omega⟩,⟨by omega,by omega⟩,⟨by omega,by omega⟩,by omega,by omega⟩
  have r0:=zB V0 h0
  rw [eY] at r0
  have i1:=h1.1
  have i0:=h0.1
  rw [eu (n:=q1 * 4294967296) (by omega) (by omega),eu (by omega) (by omega)]
  generalize hR:(U * 4294967296+L / 4294967296 - q1 * (y * p)) * 4294967296+L % 4294967296 - q0 * (y * p)=R at *
  have e:(q1 * 4294967296+q0) * (y * p)=q1 * (y * p) * 4294967296+q0 * (y * p):=by rw [Int.add_mul,Int.mul_right_comm]
  have hq:N * p=(q1 * 4294967296+q0) * (y * p)+R:=by rw [e]; omega
  have hR2:R=(N - (q1 * 4294967296+q0) * y) * p:=by rw [Int.sub_mul,Int.mul_assoc]; omega
  have N3:0≤N - (q1 * 4294967296+q0) * y:=by
    rcases Int.lt_or_le (N - (q1 * 4294967296+q0) * y) 0 with c | c
    · have:=Int.mul_neg_of_neg_of_pos c hp
      omega
    · exact c
  have gI:N - (q1 * 4294967296+q0) * y < y:=by
    rcases Int.lt_or_le (N - (q1 * 4294967296+q0) * y) y with c | c
    · exact c
    · have:=Int.mul_le_mul_of_nonneg_right c (Int.le_of_lt hp)
      omega
  have hd:N / y=q1 * 4294967296+q0:=by
    rw [Int.ediv_eq_iff_of_pos hy]
    constructor
    · omega
    · omega
  refine ⟨hd.symm,?_⟩
  rw [hR2,Int.mul_ediv_cancel _ (by omega),Int.emod_def,hd,Int.mul_comm y]
def mS (hi:Int) (lo:Int) (y:Int):Sk (Int × Int) :=
 .bind false (fun _=>True)
 (.br (y == 0)
 (.dead default)
 (.fin (.inr ())))
 (fun (_:Unit)=>⟨[],[]⟩) fun _ =>
 .bind false (fun _=>True)
 (.br (decide (y≤hi))
 (.dead default)
 (.fin (.inr ())))
 (fun (_:Unit)=>⟨[],[]⟩) fun _ =>
 .br (hi == 0)
 (.r 6 (.aj (.p (y≠0)) (.p (y≠0))) fun _ =>
 .fin (IntKind.u64.wrap (lo.tdiv y),lo.tmod y))
 (.r 7 ((m5 y).c) fun x3 =>
 .r 8 (.p (0≤(IntKind.u64.wrap (x3)))) fun _ =>
 .r 9 (.p (0≤(32:Int))) fun _ =>
 .r 11 (.aj (.p (0≤(IntKind.u64.wrap (x3)))) (.p (0≤(IntKind.u64.wrap ((64:Int) - (IntKind.u64.wrap (x3))))))) fun _ =>
 .r 12 (.p (0≤(IntKind.u64.wrap (x3)))) fun _ =>
 .r 13 (.p (0≤(32:Int))) fun _ =>
 .r 15 (.p ((ep .u64 (gb .u64 y (IntKind.u64.wrap (x3))) 32)≠0)) fun _ =>
 .bind true (fun b4=>HQ (ep .u64 (gb .u64 y (IntKind.u64.wrap (x3))) 32) (eJ .u64 (gb .u64 y (IntKind.u64.wrap (x3))) 4294967295) (VN .u64 (gb .u64 hi (IntKind.u64.wrap (x3))) (ep .u64 lo (IntKind.u64.wrap ((64:Int) - (IntKind.u64.wrap (x3)))))) (ep .u64 (gb .u64 lo (IntKind.u64.wrap (x3))) 32) b4.1)
 (.loop (default:Sum (Int × Int) (Int × Int)) (fun i5=>HI (ep .u64 (gb .u64 y (IntKind.u64.wrap (x3))) 32) (eJ .u64 (gb .u64 y (IntKind.u64.wrap (x3))) 4294967295) (VN .u64 (gb .u64 hi (IntKind.u64.wrap (x3))) (ep .u64 lo (IntKind.u64.wrap ((64:Int) - (IntKind.u64.wrap (x3)))))) (ep .u64 (gb .u64 lo (IntKind.u64.wrap (x3))) 32) i5.1 i5.2) (fun i5=>i5.1.toNat) ((IntKind.u64.wrap ((VN .u64 (gb .u64 hi (IntKind.u64.wrap (x3))) (ep .u64 lo (IntKind.u64.wrap ((64:Int) - (IntKind.u64.wrap (x3)))))).tdiv (ep .u64 (gb .u64 y (IntKind.u64.wrap (x3))) 32)),IntKind.u64.wrap ((VN .u64 (gb .u64 hi (IntKind.u64.wrap (x3))) (ep .u64 lo (IntKind.u64.wrap ((64:Int) - (IntKind.u64.wrap (x3)))))) - (IntKind.u64.wrap ((IntKind.u64.wrap ((VN .u64 (gb .u64 hi (IntKind.u64.wrap (x3))) (ep .u64 lo (IntKind.u64.wrap ((64:Int) - (IntKind.u64.wrap (x3)))))).tdiv (ep .u64 (gb .u64 y (IntKind.u64.wrap (x3))) 32))) * (ep .u64 (gb .u64 y (IntKind.u64.wrap (x3))) 32))))):Int × Int)
 (fun (i5:Int × Int)=>⟨[(15,.d (.v (.int .u64 i5.1))),(16,.d (.v (.int .u64 i5.2)))],[]⟩) fun i5 =>
 .br ((decide (i5.1≥4294967296))||(decide ((IntKind.u64.wrap (i5.1 * (eJ .u64 (gb .u64 y (IntKind.u64.wrap (x3))) 4294967295))) > (IntKind.u64.wrap ((IntKind.u64.wrap ((4294967296:Int) * i5.2))+(ep .u64 (gb .u64 lo (IntKind.u64.wrap (x3))) 32))))))
 (.br (decide ((IntKind.u64.wrap (i5.2+(ep .u64 (gb .u64 y (IntKind.u64.wrap (x3))) 32)))≥4294967296))
 (.fin (.inl (.inr (IntKind.u64.wrap (i5.1 - 1),IntKind.u64.wrap (i5.2+(ep .u64 (gb .u64 y (IntKind.u64.wrap (x3))) 32))))))
 (.fin (.inr (IntKind.u64.wrap (i5.1 - 1),IntKind.u64.wrap (i5.2+(ep .u64 (gb .u64 y (IntKind.u64.wrap (x3))) 32))))))
 (.fin (.inl (.inr (i5.1,i5.2)))))
 (fun (b4:Int × Int)=>⟨[(15,.d (.v (.int .u64 b4.1))),(16,.d (.v (.int .u64 b4.2)))],[]⟩) fun b4 =>
 .r 22 (.p ((ep .u64 (gb .u64 y (IntKind.u64.wrap (x3))) 32)≠0)) fun _ =>
 .bind true (fun b6=>HQ (ep .u64 (gb .u64 y (IntKind.u64.wrap (x3))) 32) (eJ .u64 (gb .u64 y (IntKind.u64.wrap (x3))) 4294967295) (IntKind.u64.wrap ((IntKind.u64.wrap ((IntKind.u64.wrap ((VN .u64 (gb .u64 hi (IntKind.u64.wrap (x3))) (ep .u64 lo (IntKind.u64.wrap ((64:Int) - (IntKind.u64.wrap (x3)))))) * 4294967296))+(ep .u64 (gb .u64 lo (IntKind.u64.wrap (x3))) 32))) - (IntKind.u64.wrap (b4.1 * (gb .u64 y (IntKind.u64.wrap (x3))))))) (eJ .u64 (gb .u64 lo (IntKind.u64.wrap (x3))) 4294967295) b6)
 (.loop (default:Sum (Int × Int) (Int)) (fun i7=>HI (ep .u64 (gb .u64 y (IntKind.u64.wrap (x3))) 32) (eJ .u64 (gb .u64 y (IntKind.u64.wrap (x3))) 4294967295) (IntKind.u64.wrap ((IntKind.u64.wrap ((IntKind.u64.wrap ((VN .u64 (gb .u64 hi (IntKind.u64.wrap (x3))) (ep .u64 lo (IntKind.u64.wrap ((64:Int) - (IntKind.u64.wrap (x3)))))) * 4294967296))+(ep .u64 (gb .u64 lo (IntKind.u64.wrap (x3))) 32))) - (IntKind.u64.wrap (b4.1 * (gb .u64 y (IntKind.u64.wrap (x3))))))) (eJ .u64 (gb .u64 lo (IntKind.u64.wrap (x3))) 4294967295) i7.2 i7.1) (fun i7=>i7.2.toNat) ((IntKind.u64.wrap ((IntKind.u64.wrap ((IntKind.u64.wrap ((IntKind.u64.wrap ((VN .u64 (gb .u64 hi (IntKind.u64.wrap (x3))) (ep .u64 lo (IntKind.u64.wrap ((64:Int) - (IntKind.u64.wrap (x3)))))) * 4294967296))+(ep .u64 (gb .u64 lo (IntKind.u64.wrap (x3))) 32))) - (IntKind.u64.wrap (b4.1 * (gb .u64 y (IntKind.u64.wrap (x3))))))) - (IntKind.u64.wrap ((IntKind.u64.wrap ((IntKind.u64.wrap ((IntKind.u64.wrap ((IntKind.u64.wrap ((VN .u64 (gb .u64 hi (IntKind.u64.wrap (x3))) (ep .u64 lo (IntKind.u64.wrap ((64:Int) - (IntKind.u64.wrap (x3)))))) * 4294967296))+(ep .u64 (gb .u64 lo (IntKind.u64.wrap (x3))) 32))) - (IntKind.u64.wrap (b4.1 * (gb .u64 y (IntKind.u64.wrap (x3))))))).tdiv (ep .u64 (gb .u64 y (IntKind.u64.wrap (x3))) 32))) * (ep .u64 (gb .u64 y (IntKind.u64.wrap (x3))) 32)))),IntKind.u64.wrap ((IntKind.u64.wrap ((IntKind.u64.wrap ((IntKind.u64.wrap ((VN .u64 (gb .u64 hi (IntKind.u64.wrap (x3))) (ep .u64 lo (IntKind.u64.wrap ((64:Int) - (IntKind.u64.wrap (x3)))))) * 4294967296))+(ep .u64 (gb .u64 lo (IntKind.u64.wrap (x3))) 32))) - (IntKind.u64.wrap (b4.1 * (gb .u64 y (IntKind.u64.wrap (x3))))))).tdiv (ep .u64 (gb .u64 y (IntKind.u64.wrap (x3))) 32))):Int × Int)
 (fun (i7:Int × Int)=>⟨[(16,.d (.v (.int .u64 i7.1))),(18,.d (.v (.int .u64 i7.2)))],[]⟩) fun i7 =>
 .br ((decide (i7.2≥4294967296))||(decide ((IntKind.u64.wrap (i7.2 * (eJ .u64 (gb .u64 y (IntKind.u64.wrap (x3))) 4294967295))) > (IntKind.u64.wrap ((IntKind.u64.wrap ((4294967296:Int) * i7.1))+(eJ .u64 (gb .u64 lo (IntKind.u64.wrap (x3))) 4294967295))))))
 (.br (decide ((IntKind.u64.wrap (i7.1+(ep .u64 (gb .u64 y (IntKind.u64.wrap (x3))) 32)))≥4294967296))
 (.fin (.inl (.inr (IntKind.u64.wrap (i7.2 - 1)))))
 (.fin (.inr (IntKind.u64.wrap (i7.1+(ep .u64 (gb .u64 y (IntKind.u64.wrap (x3))) 32)),IntKind.u64.wrap (i7.2 - 1)))))
 (.fin (.inl (.inr i7.2))))
 (fun (b6:Int)=>⟨[(18,.d (.v (.int .u64 b6)))],[]⟩) fun b6 =>
 .r 28 (.p (0≤(IntKind.u64.wrap (x3)))) fun _ =>
 .fin (IntKind.u64.wrap ((IntKind.u64.wrap (b4.1 * 4294967296))+b6),ep .u64 (IntKind.u64.wrap ((IntKind.u64.wrap ((IntKind.u64.wrap ((IntKind.u64.wrap ((IntKind.u64.wrap ((IntKind.u64.wrap ((VN .u64 (gb .u64 hi (IntKind.u64.wrap (x3))) (ep .u64 lo (IntKind.u64.wrap ((64:Int) - (IntKind.u64.wrap (x3)))))) * 4294967296))+(ep .u64 (gb .u64 lo (IntKind.u64.wrap (x3))) 32))) - (IntKind.u64.wrap (b4.1 * (gb .u64 y (IntKind.u64.wrap (x3))))))) * 4294967296))+(eJ .u64 (gb .u64 lo (IntKind.u64.wrap (x3))) 4294967295))) - (IntKind.u64.wrap (b6 * (gb .u64 y (IntKind.u64.wrap (x3))))))) (IntKind.u64.wrap (x3))))
def wD hi lo y:=(mS hi lo y).val
theorem MZ (hi:Int) (lo:Int) (y:Int) (hP:0≤hi∧hi < y∧y < 18446744073709551616∧0≤lo∧lo < 18446744073709551616):(mS hi lo y).dj (fun (x:Int × Int)=>x.1=(hi * 18446744073709551616+lo) / y∧x.2=(hi * 18446744073709551616+lo) % y):=by
  refine Sk.bz _ ?_
  unfold mS
  simp only [Sk.de,Sk.aI,reduceCtorEq,ON,kk,kp,m5,maxLen]
  refine ⟨fun h=>by simp only [LN] at h; omega,fun _ _=>⟨fun h=>by simp only [LN] at h; omega,fun _ _=>⟨fun h0 _=>?_,fun _ x _ hx=>?_⟩⟩⟩
  · simp only [LN] at h0
    subst h0
    have e:=Int.tdiv_eq_ediv_of_nonneg (a:=lo) (b:=y) hP.2.2.2.1
    have e2:=Int.tmod_eq_emod_of_nonneg (a:=lo) (b:=y) hP.2.2.2.1
    have q0:0≤lo / y:=Int.ediv_nonneg hP.2.2.2.1 (by omega)
    have q1:lo / y≤lo:=Int.ediv_le_self _ hP.2.2.2.1
    rw [e,e2,eu q0 (by omega)]
    simp
  · have hx:=hx ⟨by omega,by omega⟩
    obtain ⟨U,L,eU,eL,eY,hL,hU,hN⟩:=Qo hP hx
    simp only [eU,eL,eY,Ye]
    have hp:(0:Int) < 2 ^ x.toNat:=Int.pow_pos (by omega)
    have es:∀ a:Int,ep .u64 a (IntKind.u64.wrap x)=a / 2 ^ x.toNat:=fun a=>by
      rw [eu hx.1 (by omega)]
      exact G8 .u64 (b:=x) (by show 0≤x∧x≤64; omega)
    simp only [es]
    have hw:=fun q1 q0=>Zw (y:=y) (q1:=q1) (q0:=q0) (by omega) hp hx.2.2 hL hU hN
    generalize hYY:y * 2 ^ x.toNat=Y at *
    rw [KI (by omega) hx.2.2.2,KI hL.1 hL.2]
    have eY2:Y / 4294967296 * 4294967296+Y % 4294967296=Y:=by omega
    have Yc:HY (Y / 4294967296) (Y % 4294967296) U (L / 4294967296):=⟨⟨by omega,by omega⟩,⟨by omega,by omega⟩,⟨by omega,by omega⟩,by omega,by omega⟩
    intro _ _ _ _ _ _
    refine ⟨⟨Dh Yc,fun i hi=>⟨fun hc=>?_,fun hc=>Dj Yc hi hc⟩⟩,fun b hb=>?_⟩
    · have h:=Di Yc hi hc
      exact ⟨fun h2=>h.2.1 (of_decide_eq_true h2),fun h2=>⟨h.2.2 (Int.not_le.1 (of_decide_eq_false h2)),h.1⟩⟩
    · have r1:=zB Yc hb
      rw [eY2] at r1
      rw [r1.1]
      have V0:HY (Y / 4294967296) (Y % 4294967296) (U * 4294967296+L / 4294967296 - b.1 * Y) (L % 4294967296):=⟨⟨by omega,by omega⟩,⟨by omega,by omega⟩,⟨by omega,by omega⟩,by omega,by omega⟩
      intro _
      refine ⟨⟨Dh V0,fun i hi=>⟨fun hc=>?_,fun hc=>Dj V0 hi hc⟩⟩,fun q hq=>?_⟩
      · have h:=Di V0 hi hc
        exact ⟨fun h2=>h.2.1 (of_decide_eq_true h2),fun h2=>⟨h.2.2 (Int.not_le.1 (of_decide_eq_false h2)),h.1⟩⟩
      · intro _
        have r0:=zB V0 hq
        rw [eY2] at r0
        rw [r0.1]
        exact hw _ _ hb hq

theorem uF (hi:Int) (lo:Int) (y:Int):(fun (x:Int × Int)=>(0≤hi∧hi < y∧y < 18446744073709551616∧0≤lo∧lo < 18446744073709551616)→(x.1=(hi * 18446744073709551616+lo) / y∧x.2=(hi * 18446744073709551616+lo) % y)) (wD hi lo y):=fun hP=>Sk.dk _ (MZ hi lo y hP)
theorem Pf (hi:Int) (lo:Int) (y:Int) (hy:0≤hi∧hi < y∧y < 18446744073709551616∧0≤lo∧lo < 18446744073709551616):(mS hi lo y).bC (fun _=>True):=by
  refine Sk.aR _ ?_
  unfold mS
  simp only [Sk.ju,Sk.aI,reduceCtorEq,ON,kk,kp,m5,maxLen]
  refine ⟨fun h=>by simp only [LN] at h; omega,fun _ _=>⟨fun h=>by simp only [LN] at h; omega,fun _ _=>⟨fun _=>by omega,fun _=>⟨by omega,fun x _ hx=>?_⟩⟩⟩⟩
  have hx:=hx ⟨by omega,by omega⟩
  obtain ⟨U,L,eU,eL,eY,hL,hU,hN⟩:=Qo hy hx
  simp only [eU,eL,eY,Ye]
  have hp:(0:Int) < 2 ^ x.toNat:=Int.pow_pos (by omega)
  generalize hYY:y * 2 ^ x.toNat=Y at *
  rw [KI (by omega) hx.2.2.2,KI hL.1 hL.2]
  have eY2:Y / 4294967296 * 4294967296+Y % 4294967296=Y:=by omega
  have hn:Y / 4294967296≠0:=by omega
  have Yc:HY (Y / 4294967296) (Y % 4294967296) U (L / 4294967296):=⟨⟨by omega,by omega⟩,⟨by omega,by omega⟩,⟨by omega,by omega⟩,by omega,by omega⟩
  refine ⟨(kY _).1,fun _=>⟨by decide,fun _=>⟨⟨(kY _).1,(kY _).1⟩,fun _=>⟨(kY _).1,fun _=>⟨by decide,fun _=>⟨hn,fun _=>⟨⟨Dh Yc,fun i hi=>⟨fun hc=>?_,fun hc=>Dj Yc hi hc⟩⟩,fun b hb=>⟨hn,fun _=>?_⟩⟩⟩⟩⟩⟩⟩⟩
  · have h:=Di Yc hi hc
    exact ⟨fun h2=>h.2.1 (of_decide_eq_true h2),fun h2=>⟨h.2.2 (Int.not_le.1 (of_decide_eq_false h2)),h.1⟩⟩
  · have r1:=zB Yc hb
    rw [eY2] at r1
    rw [r1.1]
    have V0:HY (Y / 4294967296) (Y % 4294967296) (U * 4294967296+L / 4294967296 - b.1 * Y) (L % 4294967296):=⟨⟨by omega,by omega⟩,⟨by omega,by omega⟩,⟨by omega,by omega⟩,by omega,by omega⟩
    refine ⟨⟨Dh V0,fun i hi=>⟨fun hc=>?_,fun hc=>Dj V0 hi hc⟩⟩,fun q hq=>(kY _).1⟩
    have h:=Di V0 hi hc
    exact ⟨fun h2=>h.2.1 (of_decide_eq_true h2),fun h2=>⟨h.2.2 (Int.not_le.1 (of_decide_eq_false h2)),h.1⟩⟩

def o8 hi lo y:=kk tok mixed Tryz.func224 [.d (.v (.int .u64 hi)),.d (.v (.int .u64 lo)),.d (.v (.int .u64 y))] (fun x=>.fD [.d (.v (.int .u64 x.1)),.d (.v (.int .u64 x.2))]) true (mS hi lo y) (wD hi lo y) (Pf hi lo y) (fun (x:Int × Int)=>(0≤hi∧hi < y∧y < 18446744073709551616∧0≤lo∧lo < 18446744073709551616)→(x.1=(hi * 18446744073709551616+lo) / y∧x.2=(hi * 18446744073709551616+lo) % y)) (uF hi lo y)
def mT (a:Int) (b:Int) (c_:Int):Sk (Int × Int × Bool) :=
 .r 1 ((kr (IntKind.u64.wrap (a)) (IntKind.u64.wrap (b))).c) fun x1 =>
 .br (decide (x1.1≥(IntKind.u64.wrap (c_))))
 (.fin (0,0,false))
 (.r 4 ((o8 x1.1 x1.2 (IntKind.u64.wrap (c_))).c) fun x2 =>
 .br (decide (x2.1 > 1099511627776))
 (.fin (0,0,false))
 (.fin (ar (x2.1),ar (x2.2),true)))
def nX a b c_:=(mT a b c_).val
theorem M0 (a:Int) (b:Int) (c_:Int) (hP:(0≤a∧a≤9223372036854775807)∧(0≤b∧b≤9223372036854775807)∧0 < c_∧c_≤9223372036854775807):(mT a b c_).dj (fun (x:Int × Int × Bool)=>x.2.2=true→(0≤x.1∧x.1≤1099511627776)∧x.1=a * b / c_∧x.2.1=a * b % c_):=by
  refine Sk.bz _ ?_
  unfold mT
  simp only [Sk.de,Sk.aI,reduceCtorEq,ON,kk,kp,o8,kr,maxLen]
  obtain ⟨ha,hb,YS,Jd⟩:=hP
  rw [eu (n:=a) ha.1 (by omega),eu (n:=b) hb.1 (by omega),eu (n:=c_) (by omega) (by omega)]
  intro x _ hx
  obtain ⟨x1,x2,x3⟩:=hx ⟨⟨ha.1,by omega⟩,hb.1,by omega⟩
  intro hc y _ hy hc3
  simp only [LN] at hc hc3
  have hy:=hy ⟨x1.1,by omega,by omega,x2.1,x2.2⟩
  rw [x3] at hy
  have q0:0≤a * b / c_:=Int.ediv_nonneg (Int.mul_nonneg ha.1 hb.1) (by omega)
  have m0:=Int.emod_nonneg (a * b) (b:=c_) (by omega)
  have m1:=Int.emod_lt_of_pos (a * b) (b:=c_) YS
  rw [aA (n:=y.1) (by omega) (by omega),aA (n:=y.2) (by omega) (by omega)]
  omega

theorem Ke (a:Int) (b:Int) (c_:Int):(fun (x:Int × Int × Bool)=>((0≤a∧a≤9223372036854775807)∧(0≤b∧b≤9223372036854775807)∧0 < c_∧c_≤9223372036854775807)→(x.2.2=true→(0≤x.1∧x.1≤1099511627776)∧x.1=a * b / c_∧x.2.1=a * b % c_)) (nX a b c_):=fun hP=>Sk.dk _ (M0 a b c_ hP)
theorem Pg (a:Int) (b:Int) (c_:Int):(mT a b c_).bC (fun _=>True):=by
  refine Sk.aR _ ?_
  unfold mT
  simp only [Sk.ju,Sk.aI,reduceCtorEq,ON,kk,kp,o8,kr,maxLen]
  intro x _ h hc
  simp only [LN] at hc
  obtain ⟨x1,x2,-⟩:=h ⟨kY _,kY _⟩
  exact ⟨x1.1,by omega,(kY _).2,x2.1,x2.2⟩

def Ay a b c_:=kk tok mixed Tryz.func220 [iv a,iv b,iv c_] (fun x=>.fD [iv x.1,iv x.2.1,bv x.2.2]) true (mT a b c_) (nX a b c_) (u0 (Pg a b c_)) (fun (x:Int × Int × Bool)=>((0≤a∧a≤9223372036854775807)∧(0≤b∧b≤9223372036854775807)∧0 < c_∧c_≤9223372036854775807)→(x.2.2=true→(0≤x.1∧x.1≤1099511627776)∧x.1=a * b / c_∧x.2.1=a * b % c_)) (Ke a b c_)
def kH (sum:Int) (iM:Int) (from_:Int) (cM:Int) (basis:Int):Sk (Int × Int) :=
 .r 1 (.dep ((lS sum 1099511627776).c) fun x1=>.dep (.wh (!x1) false ((lS iM 1000).c)) fun x2=>.dep (.wh ((!x1)||(!x2)) false ((lS from_ 100000).c)) fun x3=>.wh (((!x1)||(!x2))||(!x3)) false ((lS cM 100000).c)) fun p6 =>
 .br ((((((!p6.1)||(!p6.2.1))||(!p6.2.2.1))||(!p6.2.2.2))||(decide (cM < from_)))||((basis != 360)&&(basis != 365)))
 (.fin (0,1))
 (.r 3 ((Ay sum (ar (iM * (ar (cM - from_)))) (ar ((1000:Int) * basis))).c) fun x5 =>
 .br (!x5.2.2)
 (.fin (0,3))
 (.fin (x5.1,0)))
def sf sum iM from_ cM basis:=(kH sum iM from_ cM basis).val
theorem EL (sum:Int) (iM:Int) (from_:Int) (cM:Int) (basis:Int):(kH sum iM from_ cM basis).dj (fun (x:Int × Int)=>0≤x.1∧x.1≤1099511627776):=by
  refine Sk.bz _ ?_
  unfold kH
  simp only [Sk.de,Sk.aI,reduceCtorEq,ON,kk,kp,Ay,lS,uE,forall_eq,maxLen]
  refine ⟨fun _=>⟨by decide,by decide⟩,fun hc h=>⟨fun _=>⟨by decide,by decide⟩,fun Jd=>?_⟩⟩
  simp only [LN] at hc Jd
  have hp0:0≤iM * (cM - from_):=Int.mul_nonneg (by omega) (by omega)
  have hp1:iM * (cM - from_)≤1000 * (cM - from_):=Int.mul_le_mul_of_nonneg_right (by omega) (by omega)
  rw [aA (n:=cM - from_) (by omega) (by omega),aA (n:=iM * (cM - from_)) (by omega) (by omega),aA (n:=1000 * basis) (by omega) (by omega)] at h Jd ⊢
  exact (h ⟨by omega,by omega,by omega⟩ Jd).1

theorem Gq (sum:Int) (iM:Int) (from_:Int) (cM:Int) (basis:Int):(kH sum iM from_ cM basis).bC (fun _=>True):=by
  unfold kH
  try simp only [Ay,lS,uE]
  exact Bu

def sY sum iM from_ cM basis:=kp tok mixed Tryz.func190 [iv sum,iv iM,iv from_,iv cM,iv basis] (fun x=>.fD [iv x.1,iv x.2]) true (sf sum iM from_ cM basis) (u0 (Gq sum iM from_ cM basis)) (EL sum iM from_ cM basis)
def jF (sum:Int) (mD:Int) (from_:Int) (cM:Int):Sk (Int) :=
 .r 1 ((sY sum mD from_ cM 360).c) fun x1 =>
 .br (x1.2 == 3)
 (.fin 1099511627776)
 (.fin x1.1)
def fx sum mD from_ cM:=(jF sum mD from_ cM).val
theorem uS (sum:Int) (mD:Int) (from_:Int) (cM:Int):(jF sum mD from_ cM).dj (fun (x:Int)=>0≤x∧x≤1099511627776):=by
  unfold jF
  try simp only [sY]
  exact Fz

theorem nY (sum:Int) (mD:Int) (from_:Int) (cM:Int):(fun (x:Int)=>0≤x∧x≤1099511627776) (fx sum mD from_ cM):=have h:=Sk.dk _ (uS sum mD from_ cM); h
theorem EM (sum:Int) (mD:Int) (from_:Int) (cM:Int):(jF sum mD from_ cM).bC (fun _=>True):=by
  unfold jF
  try simp only [sY]
  exact qT

def ny sum mD from_ cM:=kp tok mixed Tryz.func155 [iv sum,iv mD,iv from_,iv cM] (fun x=>iv x) true (fx sum mD from_ cM) (u0 (EM sum mD from_ cM)) (uS sum mD from_ cM)
structure mJ where
  num:Int
  den:Int
  deriving Inhabited
def mJ.cells (c:mJ):List D:=[dI c.num,dI c.den]
def nZ (bV:List qU) (from_:Int) (cM:Int) (day:Int):Sk (Int) :=
 .bind true (fun b1=>b1 = -1∨(0≤b1∧b1 < (bV.length:Int)))
 (.loop (default:Sum (Int) (Int)) (fun i2=>i2.2≤bV.length∧(i2.1 = -1∨(0≤i2.1∧i2.1 < (bV.length:Int)))) (fun i2=>bV.length - i2.2) (((-1),0):Int × Nat)
 (fun (i2:Int × Nat)=>⟨[(9,iv i2.1),(14,iv ((i2.2:Nat):Int))],[]⟩) fun i2 =>
 .lt 0 0 i2.2 bV.length
 (.r 4 (.p (bU ((i2.2:Nat):Int) bV.length)) fun _ =>
 .r 5 (.wh (((((bV.getD i2.2 default).from_) == from_)&&(((bV.getD i2.2 default).cM) == cM))&&(decide (((bV.getD i2.2 default).since)≤day))) true (.wh (decide (i2.1 < 0)) false (.p (bU i2.1 bV.length)))) fun _ =>
 .br ((((((bV.getD i2.2 default).from_) == from_)&&(((bV.getD i2.2 default).cM) == cM))&&(decide (((bV.getD i2.2 default).since)≤day)))&&((decide (i2.1 < 0))||(decide (((bV.getD i2.2 default).since) > ((bV.getD i2.1.toNat default).since)))))
 (.r 7 .z fun _ =>
 .wi 14 (ar (((i2.2:Nat):Int)+1)) ((i2.2+1:Nat):Int) <|
 .fin (.inr (((i2.2:Nat):Int),i2.2+1)))
 (.nx 7 14 i2.2 (i2.1,i2.2+1)))
 (.fin (.inl (.inr i2.1))))
 (fun (b1:Int)=>⟨[(9,iv b1)],[]⟩) fun b1 =>
 .fin b1
def UM bV from_ cM day:=(nZ bV from_ cM day).val
theorem Kf (bV:List qU) (from_:Int) (cM:Int) (day:Int):(nZ bV from_ cM day).dj (fun (x:Int)=>x = -1∨(0≤x∧x < (bV.length:Int))):=by
  unfold nZ
  exact Fz

theorem M1 (bV:List qU) (from_:Int) (cM:Int) (day:Int):(nZ bV from_ cM day).bC (fun _=>True):=by
  unfold nZ
  exact mA

def tz bV from_ cM day:=kp tok mixed Tryz.func221 [lv qU.cells bV,iv from_,iv cM,iv day] (fun x=>iv x) true (UM bV from_ cM day) (u0 (M1 bV from_ cM day)) (Kf bV from_ cM day)
def sh (n:Int):Sk (Int) :=
 .br (decide (n < 0))
 (.fin (IntKind.u64.wrap (0 - (IntKind.u64.wrap (n)))))
 (.fin (IntKind.u64.wrap (n)))
def Zx n:=(sh n).val
theorem Ph (n:Int):(sh n).dj (fun (x:Int)=>0≤x∧x < 18446744073709551616∧(0≤n→n≤9223372036854775807→x=n)):=by
  refine Sk.bz _ ?_
  unfold sh
  simp only [Sk.de,Sk.aI,reduceCtorEq,ON,kk,kp,maxLen]
  refine ⟨fun hc=>⟨(kY _).1,(kY _).2,fun h=>?_⟩,fun _=>⟨(kY _).1,(kY _).2,fun h1 h2=>eu h1 (by omega)⟩⟩
  simp only [LN] at hc
  omega

theorem R4 (n:Int):(sh n).bC (fun _=>True):=by
  unfold sh
  exact qT

def xC n:=kp tok mixed Tryz.func239 [iv n] (fun x=>.d (.v (.int .u64 x))) true (Zx n) (u0 (R4 n)) (Ph n)
theorem abz {p q:Int} (hp:0≤p) (hq:0≤q):q.gcd (p.tmod q)=p.gcd q:=by
  obtain ⟨p,rfl⟩:=Int.eq_ofNat_of_zero_le hp
  obtain ⟨q,rfl⟩:=Int.eq_ofNat_of_zero_le hq
  rw [Int.tmod_eq_emod_of_nonneg (by omega),← Int.natCast_emod,Int.gcd_natCast_natCast,Int.gcd_natCast_natCast,Nat.gcd_comm q,Nat.gcd_comm p q,Nat.gcd_rec q p]
theorem Qp {i:Int × Int} {a b:Int} (hi:0≤i.1∧0≤i.2∧Int.gcd i.1 i.2=Int.gcd a b) (h:i.2≠0):(0≤i.2∧0≤i.1.tmod i.2∧Int.gcd i.2 (i.1.tmod i.2)=Int.gcd a b)∧(i.1.tmod i.2).toNat < i.2.toNat:=by
  have h1:=Int.tmod_nonneg i.2 hi.1
  have h2:=Int.tmod_lt_of_pos i.1 (b:=i.2) (by omega)
  exact ⟨⟨hi.2.1,h1,(abz hi.1 hi.2.1).trans hi.2.2⟩,by omega⟩
theorem Yf {i:Int × Int} {a b:Int} (hi:0≤i.1∧0≤i.2∧Int.gcd i.1 i.2=Int.gcd a b) (h:i.2=0):i.1=(Int.gcd a b:Int):=by
  rw [← hi.2.2,h]
  have:=hi.1
  simp [Int.gcd_zero_right]
  omega
theorem UN {n:Int} {g:Int} (hn:1≤n∧n≤1073741824) (hg:0 < g) (hd:g∣n):1≤IntKind.u64.wrap (n.tdiv g)∧IntKind.u64.wrap (n.tdiv g)≤1073741824:=by
  have e:n.tdiv g=n / g:=Int.tdiv_eq_ediv_of_nonneg (by omega)
  have h1:g≤n:=Int.le_of_dvd (by omega) hd
  have h2:1≤n / g:=(Int.le_ediv_iff_mul_le hg).2 (by omega)
  have h3:n / g≤n:=Int.ediv_le_self _ (by omega)
  rw [e,eu (by omega) (by omega)]
  omega
def o9 (a:Int) (b:Int):Sk (Int) :=
 .bind true (fun b1=>b1=(Int.gcd a b:Int))
 (.loop (default:Sum (Int) (Int)) (fun i2=>0≤i2.1∧0≤i2.2∧Int.gcd i2.1 i2.2=Int.gcd a b) (fun i2=>i2.2.toNat) ((a,b):Int × Int)
 (fun (i2:Int × Int)=>⟨[(0,.d (.v (.int .u64 i2.1))),(1,.d (.v (.int .u64 i2.2)))],[]⟩) fun i2 =>
 .br (i2.2 != 0)
 (.r 2 (.p (i2.2≠0)) fun _ =>
 .fin (.inr (i2.2,i2.1.tmod i2.2)))
 (.fin (.inl (.inr i2.1))))
 (fun (b1:Int)=>⟨[(0,.d (.v (.int .u64 b1)))],[]⟩) fun b1 =>
 .fin b1
def Qq a b:=(o9 a b).val
theorem Pj (a:Int) (b:Int) (hP:0≤a∧0≤b):(o9 a b).dj (fun (x:Int)=>x=(Int.gcd a b:Int)):=by
  refine Sk.bz _ ?_
  unfold o9
  simp only [Sk.de,Sk.aI,reduceCtorEq,ON,kk,kp,maxLen]
  exact ⟨⟨hP,fun i hi=>⟨fun hc _=>Qp hi (by simpa using hc),fun hc=>Yf hi (by simpa using hc)⟩⟩,fun b hb=>hb⟩

theorem M3 (a:Int) (b:Int):(fun (x:Int)=>(0≤a∧0≤b)→(x=(Int.gcd a b:Int))) (Qq a b):=fun hP=>Sk.dk _ (Pj a b hP)
theorem R5 (a:Int) (b:Int) (ha:0≤a∧0≤b):(o9 a b).bC (fun _=>True):=by
  refine Sk.aR _ ?_
  unfold o9
  simp only [Sk.ju,Sk.aI,reduceCtorEq,ON,kk,kp,maxLen]
  exact ⟨ha,fun i hi=>⟨fun hc=>⟨by simpa using hc,fun _=>Qp hi (by simpa using hc)⟩,fun hc=>Yf hi (by simpa using hc)⟩⟩

def Cw a b:=kk tok mixed Tryz.func240 [.d (.v (.int .u64 a)),.d (.v (.int .u64 b))] (fun x=>.d (.v (.int .u64 x))) true (o9 a b) (Qq a b) (R5 a b) (fun (x:Int)=>(0≤a∧0≤b)→(x=(Int.gcd a b:Int))) (M3 a b)
structure Kg where
  hi:Int
  lo:Int
  deriving Inhabited
def Kg.cells (c:Kg):List D:=[.v (.int .u64 c.hi),.v (.int .u64 c.lo)]
def mU (negative:Bool) (num:Kg) (den:Kg):Sk (mJ × Int) :=
 .br ((((decide (num.hi > 0))||(decide (den.hi > 0)))||(decide (num.lo > 1152921504606846976)))||(decide (den.lo > 1152921504606846976)))
 (.fin (({ num:=0,den:=0 }:mJ),3))
 (.br negative
 (.fin (({ num:=ar (0 - (ar (num.lo))),den:=ar (den.lo) }:mJ),0))
 (.fin (({ num:=ar (num.lo),den:=ar (den.lo) }:mJ),0)))
def M4 negative num den:=(mU negative num den).val
theorem M5 (negative:Bool) (num:Kg) (den:Kg) (hP:num.hi=0∧den.hi=0∧negative=false∧(1≤num.lo∧num.lo≤1073741824)∧1≤den.lo∧den.lo≤1073741824):(mU negative num den).dj (fun (x:mJ × Int)=>x.1.num=num.lo∧x.1.den=den.lo):=by
  unfold mU
  exact Fz

theorem Kh (negative:Bool) (num:Kg) (den:Kg):(fun (x:mJ × Int)=>(num.hi=0∧den.hi=0∧negative=false∧(1≤num.lo∧num.lo≤1073741824)∧1≤den.lo∧den.lo≤1073741824)→(x.1.num=num.lo∧x.1.den=den.lo)) (M4 negative num den):=fun hP=>Sk.dk _ (M5 negative num den hP)
theorem Pk (negative:Bool) (num:Kg) (den:Kg):(mU negative num den).bC (fun _=>True):=by
  unfold mU
  exact qT

def Az negative num den:=kk tok mixed Tryz.func241 [bv negative,av num.cells,av den.cells] (fun x=>.fD [av x.1.cells,iv x.2]) true (mU negative num den) (M4 negative num den) (u0 (Pk negative num den)) (fun (x:mJ × Int)=>(num.hi=0∧den.hi=0∧negative=false∧(1≤num.lo∧num.lo≤1073741824)∧1≤den.lo∧den.lo≤1073741824)→(x.1.num=num.lo∧x.1.den=den.lo)) (Kh negative num den)
def pO (num:Int) (den:Int):Sk (mJ × Int) :=
 .br (den == 0)
 (.fin (({ num:=0,den:=0 }:mJ),1))
 (.r 3 (.dep ((xC num).c) fun _=>(xC den).c) fun p5 =>
 .r 4 ((Cw p5.1 p5.2).c) fun x3 =>
 .r 5 (.aj (.p (x3≠0)) (.aj (.p (x3≠0)) ((Az (!((decide (num < 0)) == (decide (den < 0)))) ({ hi:=0,lo:=IntKind.u64.wrap (p5.1.tdiv x3) }:Kg) ({ hi:=0,lo:=IntKind.u64.wrap (p5.2.tdiv x3) }:Kg)).c))) fun x4 =>
 .fin (x4.1,x4.2))
def WU num den:=(pO num den).val
theorem M6 (num:Int) (den:Int):(pO num den).dj (fun (x:mJ × Int)=>(den=0→x.2=1)∧((1≤num∧num≤1073741824)∧1≤den∧den≤1073741824→(1≤x.1.num∧x.1.num≤1073741824)∧1≤x.1.den∧x.1.den≤1073741824)):=by
  refine Sk.bz _ ?_
  unfold pO
  simp only [Sk.de,Sk.aI,reduceCtorEq,ON,kk,kp,xC,Cw,Az,maxLen]
  refine ⟨fun hc h=>?_,fun hc x _ hx y _ hy z _ hz=>⟨fun h=>?_,fun h=>?_⟩⟩
  all_goals simp only [LN] at hc
  · omega
  · omega
  · have e1:=hx.1.2.2 (by omega) (by omega)
    have e2:=hx.2.2.2 (by omega) (by omega)
    have hg:=hy ⟨hx.1.1,hx.2.1⟩
    rw [e1,e2] at hg hz
    have N3:0 < y:=by
      rw [hg]
      have:=Int.gcd_pos_of_ne_zero_left (a:=num) den (by omega)
      omega
    have q1:=UN h.1 N3 (by rw [hg]; exact Int.gcd_dvd_left ..)
    have q2:=UN h.2 N3 (by rw [hg]; exact Int.gcd_dvd_right ..)
    have ace:(!decide (num < 0) == decide (den < 0))=false:=by
      rw [decide_eq_false (by omega),decide_eq_false (by omega)]; rfl
    have:=hz ⟨ace,q1,q2⟩
    omega

theorem Pl (num:Int) (den:Int) (hd:(0≤num∧num≤1073741824)∧0≤den∧den≤1073741824):(pO num den).bC (fun _=>True):=by
  refine Sk.aR _ ?_
  unfold pO
  simp only [Sk.ju,Sk.aI,reduceCtorEq,ON,kk,kp,xC,Cw,Az,maxLen]
  intro hc x _ hx
  refine ⟨⟨hx.1.1,hx.2.1⟩,fun y _ hy=>?_⟩
  simp only [LN] at hc
  have hg:=hy ⟨hx.1.1,hx.2.1⟩
  have e2:=hx.2.2.2 (by omega) (by omega)
  have:=Int.gcd_pos_of_ne_zero_right x.1 (b:=x.2) (by omega)
  omega

def AA num den:=kp tok mixed Tryz.func222 [iv num,iv den] (fun x=>.fD [av x.1.cells,iv x.2]) true (WU num den) (Pl num den) (M6 num den)
def lT (r:ah) (from_:Int) (cM:Int) (day:Int):Sk (mJ × Bool) :=
 .r 2 ((tz r.bV from_ cM day).c) fun x1 =>
 .bind false (fun b2=>r.dg→(b2.1=0∧b2.2=0)∨((1≤b2.1∧b2.1≤1073741824)∧1≤b2.2∧b2.2≤1073741824))
 (.br (decide (x1≥0))
 (.r 4 (.aj (.p (bU x1 r.bV.length)) (.p (bU x1 r.bV.length))) fun _ =>
 .fin (.inr ((r.bV.getD x1.toNat default).num,(r.bV.getD x1.toNat default).den)))
 (.r 5 ((tz r.bV cM from_ day).c) fun x3 =>
 .br (decide (x3≥0))
 (.r 7 (.aj (.p (bU x3 r.bV.length)) (.p (bU x3 r.bV.length))) fun _ =>
 .fin (.inr ((r.bV.getD x3.toNat default).den,(r.bV.getD x3.toNat default).num)))
 (.fin (.inr (0,0)))))
 (fun (b2:Int × Int)=>⟨[(10,iv b2.1),(11,iv b2.2)],[]⟩) fun b2 =>
 .r 8 ((AA b2.1 b2.2).c) fun x4 =>
 .fin (x4.1,x4.2 == 0)
def l6 r from_ cM day:=(lT r from_ cM day).val
theorem Ki (r:ah) (from_:Int) (cM:Int) (day:Int) (hP:r.dg):(lT r from_ cM day).dj (fun (x:mJ × Bool)=>x.2=true→(1≤x.1.num∧x.1.num≤1073741824)∧1≤x.1.den∧x.1.den≤1073741824):=by
  refine Sk.bz _ ?_
  unfold lT
  simp only [Sk.de,Sk.aI,reduceCtorEq,ON,kk,kp,tz,AA,maxLen]
  intro x _ hx
  refine ⟨⟨fun hc _ hR=>?_,fun hc y _ hy=>⟨fun Jd _ hR=>?_,fun _ _=>.inl trivial⟩⟩,fun b _ hb z _ hz h0=>?_⟩
  · simp only [LN] at hc
    exact .inr (hR x.toNat (by omega))
  · simp only [LN] at Jd
    exact .inr ⟨(hR y.toNat (by omega)).2,(hR y.toNat (by omega)).1⟩
  · rcases hb hP with h | h
    · have:=hz.1 h.2
      rw [this] at h0
      exact absurd h0 (by decide)
    · exact hz.2 h

theorem sZ (r:ah) (from_:Int) (cM:Int) (day:Int):(fun (x:mJ × Bool)=>(r.dg)→(x.2=true→(1≤x.1.num∧x.1.num≤1073741824)∧1≤x.1.den∧x.1.den≤1073741824)) (l6 r from_ cM day):=fun hP=>Sk.dk _ (Ki r from_ cM day hP)
theorem M7 (r:ah) (from_:Int) (cM:Int) (day:Int) (hra:r.dg):(lT r from_ cM day).bC (fun _=>True):=by
  refine Sk.aR _ ?_
  unfold lT
  simp only [Sk.ju,Sk.aI,reduceCtorEq,ON,kk,kp,tz,AA,maxLen]
  intro x _ hx
  refine ⟨⟨fun hc=>⟨?_,fun _ hR=>?_⟩,fun hc y _ hy=>⟨fun Jd=>⟨?_,fun _ hR=>?_⟩,fun _ _=>.inl trivial⟩⟩,fun b _ hb=>?_⟩
  · simp only [LN] at hc; omega
  · simp only [LN] at hc
    exact .inr (hR x.toNat (by omega))
  · simp only [LN] at Jd; omega
  · simp only [LN] at Jd
    exact .inr ⟨(hR y.toNat (by omega)).2,(hR y.toNat (by omega)).1⟩
  · rcases hb hra with h | h <;> omega

def tA r from_ cM day:=kk tok mixed Tryz.func191 [av r.cells,iv from_,iv cM,iv day] (fun x=>.fD [av x.1.cells,bv x.2]) true (lT r from_ cM day) (l6 r from_ cM day) (M7 r from_ cM day) (fun (x:mJ × Bool)=>(r.dg)→(x.2=true→(1≤x.1.num∧x.1.num≤1073741824)∧1≤x.1.den∧x.1.den≤1073741824)) (sZ r from_ cM day)
theorem HX {a b:Int} (ha:1≤a∧a≤1073741824) (hb:1≤b∧b≤1073741824):(1≤a * b∧a * b≤1152921504606846976)∧IntKind.u64.wrap (IntKind.u64.wrap a * IntKind.u64.wrap b)=a * b:=by
  have h1:1 * b≤a * b:=Int.mul_le_mul_of_nonneg_right ha.1 (by omega)
  have h2:a * b≤1073741824 * b:=Int.mul_le_mul_of_nonneg_right ha.2 (by omega)
  have h3:1≤a * b∧a * b≤1152921504606846976:=by omega
  rw [eu (n:=a) (by omega) (by omega),eu (n:=b) (by omega) (by omega),eu (by omega) (by omega)]
  exact ⟨h3,rfl⟩
theorem M8 {s D W x y:Int} (hs:0≤s∧s≤1099511627776) (hD:0≤D∧D≤W) (hW:1≤W∧W≤1152921504606846976) (hx:0≤x) (hy:0≤y) (e:x * 18446744073709551616+y=s * D):x < W∧0≤s * D / W∧s * D / W≤s:=by
  have h0:0≤s * D:=Int.mul_nonneg hs.1 hD.1
  have h1:s * D≤s * W:=Int.mul_le_mul_of_nonneg_left hD.2 hs.1
  have h2:s * W≤1099511627776 * W:=Int.mul_le_mul_of_nonneg_right hs.2 (by omega)
  exact ⟨by omega,Int.ediv_nonneg h0 (by omega),Int.ediv_le_of_le_mul (by omega) h1⟩
def lU (sum:Int) (a:mJ) (b:mJ):Sk (Int) :=
 .br (decide ((IntKind.u64.wrap ((IntKind.u64.wrap (a.num)) * (IntKind.u64.wrap (b.num))))≥(IntKind.u64.wrap ((IntKind.u64.wrap (a.den)) * (IntKind.u64.wrap (b.den))))))
 (.fin 0)
 (.r 4 ((kr (IntKind.u64.wrap (sum)) (IntKind.u64.wrap ((IntKind.u64.wrap ((IntKind.u64.wrap (a.den)) * (IntKind.u64.wrap (b.den)))) - (IntKind.u64.wrap ((IntKind.u64.wrap (a.num)) * (IntKind.u64.wrap (b.num))))))).c) fun x1 =>
 .r 5 ((o8 x1.1 x1.2 (IntKind.u64.wrap ((IntKind.u64.wrap (a.den)) * (IntKind.u64.wrap (b.den))))).c) fun x2 =>
 .fin (ar (x2.1)))
def n4 sum a b:=(lU sum a b).val
theorem Kj (sum:Int) (a:mJ) (b:mJ) (hP:(0≤sum∧sum≤1099511627776)∧((1≤a.num∧a.num≤1073741824)∧1≤a.den∧a.den≤1073741824)∧(1≤b.num∧b.num≤1073741824)∧1≤b.den∧b.den≤1073741824):(lU sum a b).dj (fun (x:Int)=>0≤x∧x≤1099511627776):=by
  refine Sk.bz _ ?_
  unfold lU
  simp only [Sk.de,Sk.aI,reduceCtorEq,ON,kk,kp,o8,kr,maxLen]
  obtain ⟨hs,ha,hb⟩:=hP
  obtain ⟨hk,ek⟩:=HX (a:=a.num) (b:=b.num) ha.1 hb.1
  obtain ⟨hw,ew⟩:=HX (a:=a.den) (b:=b.den) ha.2 hb.2
  rw [ek,ew]
  refine ⟨fun _=>⟨by decide,by decide⟩,fun hc x _ hx y _ hy=>?_⟩
  simp only [LN] at hc
  rw [eu (n:=sum) hs.1 (by omega),eu (n:=a.den * b.den - a.num * b.num) (by omega) (by omega)] at hx
  obtain ⟨h1,h2,h3⟩:=hx ⟨⟨hs.1,by omega⟩,by omega,by omega⟩
  obtain ⟨l1,l2,l3⟩:=M8 hs (D:=a.den * b.den - a.num * b.num) (by omega) hw h1.1 h2.1 h3
  have hy:=(hy ⟨h1.1,l1,by omega,h2.1,h2.2⟩).1
  rw [h3] at hy
  rw [aA (by omega) (by omega)]
  omega

theorem HZ (sum:Int) (a:mJ) (b:mJ):(fun (x:Int)=>((0≤sum∧sum≤1099511627776)∧((1≤a.num∧a.num≤1073741824)∧1≤a.den∧a.den≤1073741824)∧(1≤b.num∧b.num≤1073741824)∧1≤b.den∧b.den≤1073741824)→(0≤x∧x≤1099511627776)) (n4 sum a b):=fun hP=>Sk.dk _ (Kj sum a b hP)
theorem M9 (sum:Int) (a:mJ) (b:mJ) (hs:0≤sum∧sum≤1099511627776) (ha:(1≤a.num∧a.num≤1073741824)∧1≤a.den∧a.den≤1073741824) (hb:(1≤b.num∧b.num≤1073741824)∧1≤b.den∧b.den≤1073741824):(lU sum a b).bC (fun _=>True):=by
  refine Sk.aR _ ?_
  unfold lU
  simp only [Sk.ju,Sk.aI,reduceCtorEq,ON,kk,kp,o8,kr,maxLen]
  obtain ⟨hk,ek⟩:=HX (a:=a.num) (b:=b.num) ha.1 hb.1
  obtain ⟨hw,ew⟩:=HX (a:=a.den) (b:=b.den) ha.2 hb.2
  rw [ek,ew]
  intro hc x _ hx
  simp only [LN] at hc
  rw [eu (n:=sum) hs.1 (by omega),eu (n:=a.den * b.den - a.num * b.num) (by omega) (by omega)] at hx
  obtain ⟨h1,h2,h3⟩:=hx ⟨⟨hs.1,by omega⟩,by omega,by omega⟩
  obtain ⟨l1,l2,l3⟩:=M8 hs (D:=a.den * b.den - a.num * b.num) (by omega) hw h1.1 h2.1 h3
  exact ⟨h1.1,l1,by omega,h2.1,h2.2⟩

def yp sum a b:=kk tok mixed Tryz.func192 [iv sum,av a.cells,av b.cells] (fun x=>iv x) true (lU sum a b) (n4 sum a b) (u3 (M9 sum a b)) (fun (x:Int)=>((0≤sum∧sum≤1099511627776)∧((1≤a.num∧a.num≤1073741824)∧1≤a.den∧a.den≤1073741824)∧(1≤b.num∧b.num≤1073741824)∧1≤b.den∧b.den≤1073741824)→(0≤x∧x≤1099511627776)) (HZ sum a b)
def gX (r:ah) (b:rE) (dQ:Int) (sum:Int) (from_:Int) (cM:Int):Sk (Int) :=
 .r 1 (.aj (.p (bU dQ r.bu.length)) (.p (bU ((r.bu.getD dQ.toNat default).cH) r.aN.length))) fun _ =>
 .br (((r.aN.getD (((r.bu.getD dQ.toNat default).cH).toNat) default).au) == b.au)
 (.fin 0)
 (.r 4 ((tA r b.au ((r.aN.getD (((r.bu.getD dQ.toNat default).cH).toNat) default).au) from_).c) fun x1 =>
 .r 5 ((tA r ((r.aN.getD (((r.bu.getD dQ.toNat default).cH).toNat) default).au) b.au cM).c) fun x2 =>
 .br ((!x1.2)||(!x2.2))
 (.fin 0)
 (.r 8 ((yp sum x1.1 x2.1).c) fun x3 =>
 .fin x3))
def kb r b dQ sum from_ cM:=(gX r b dQ sum from_ cM).val
theorem DR (r:ah) (b:rE) (dQ:Int) (sum:Int) (from_:Int) (cM:Int) (hP:(0≤sum∧sum≤1099511627776)∧r.dg):(gX r b dQ sum from_ cM).dj (fun (x:Int)=>0≤x∧x≤1099511627776):=by
  unfold gX
  try simp only [tA,yp]
  exact Fz

theorem oa (r:ah) (b:rE) (dQ:Int) (sum:Int) (from_:Int) (cM:Int):(fun (x:Int)=>((0≤sum∧sum≤1099511627776)∧r.dg)→(0≤x∧x≤1099511627776)) (kb r b dQ sum from_ cM):=fun hP=>Sk.dk _ (DR r b dQ sum from_ cM hP)
theorem EN (r:ah) (b:rE) (dQ:Int) (sum:Int) (from_:Int) (cM:Int) (hw:0≤dQ∧dQ < (r.bu.length:Int)) (hs:0≤sum∧sum≤1099511627776) (hfi:r.im) (hra:r.dg):(gX r b dQ sum from_ cM).bC (fun _=>True):=by
  refine Sk.aR _ ?_
  unfold gX
  simp only [Sk.ju,Sk.aI,reduceCtorEq,ON,kk,kp,tA,yp,maxLen]
  refine ⟨⟨hw,hfi dQ.toNat (by omega)⟩,fun _ _=>⟨hra,fun x _ hx=>⟨hra,fun y _ hy hc=>?_⟩⟩⟩
  simp only [LN] at hc
  exact ⟨hs,hx hra hc.1,hy hra hc.2⟩

def nz r b dQ sum from_ cM:=kk tok mixed Tryz.func156 [av r.cells,av b.cells,iv dQ,iv sum,iv from_,iv cM] (fun x=>iv x) true (gX r b dQ sum from_ cM) (kb r b dQ sum from_ cM) (u4 (EN r b dQ sum from_ cM)) (fun (x:Int)=>((0≤sum∧sum≤1099511627776)∧r.dg)→(0≤x∧x≤1099511627776)) (oa r b dQ sum from_ cM)
def jG (r:ah) (forum:Int) (f:ak) (sign:Int) (day:Int):Sk (DQ) :=
 .r 1 ((aV f day).c) fun x1 =>
 .r 2 ((tx r forum f sign day).c) fun x2 =>
 .br (((!x2.2)||(decide (sign < 0)))||(decide (sign≥((x1.af.length:Nat):Int))))
 (.fin ({ sum:=0,mI:=0,A8:=0,exchange:=0,WT:=0,rest:=0,au:=0 }:DQ))
 (.r 6 ((bW r forum f day).c) fun x3 =>
 .bind false (fun b4=>cb r f→r.dg→(0≤b4.sum∧b4.sum≤1099511627776)∧(0≤b4.mI∧b4.mI≤1099511627776)∧(0≤b4.A8∧b4.A8≤1099511627776)∧(0≤b4.exchange∧b4.exchange≤1099511627776))
 (.br ((x3 != (-1))&&(decide (x3≤(cq day 100000))))
 (.bind false (fun _=>True)
 (.br (f.aU.mD == 0)
 (.r 11 (.dep ((eX r forum 16 ({ file:=f,sign:=sign,jy:=sign,ch:=(-1),due:=x3,day:=day }:fF)).c) fun x6=>(oS x6).c) fun p8 =>
 .fin (.inr (cq 1000 (bX 0 p8.2))))
 (.fin (.inr f.aU.mD)))
 (fun (b5:Int)=>⟨[(18,iv b5)],[]⟩) fun b5 =>
 .r 12 ((ny x2.1.sum b5 x3 (cq day 100000)).c) fun x9 =>
 .r 13 (.dep ((eX r forum 17 ({ file:=f,sign:=sign,jy:=sign,ch:=(-1),due:=x3,day:=day }:fF)).c) fun Ma=>(eZ Ma).c) fun p13 =>
 .br (p13.2 == 1)
 (.r 14 (.aj (.p (bU sign x1.af.length)) ((nz r f.aU ((x1.af.getD sign.toNat default).dQ) x2.1.sum x3 (cq day 100000)).c)) fun x12 =>
 .fin (.inr ({ sum:=x2.1.sum,mI:=x9,A8:=0,exchange:=x12,WT:=0,rest:=0,au:=f.aU.au }:DQ)))
 (.fin (.inr ({ sum:=x2.1.sum,mI:=x9,A8:=0,exchange:=0,WT:=0,rest:=0,au:=f.aU.au }:DQ))))
 (.fin (.inr ({ sum:=x2.1.sum,mI:=0,A8:=0,exchange:=0,WT:=0,rest:=0,au:=f.aU.au }:DQ))))
 (fun (b4:DQ)=>⟨[],[(14,.box (b4.cells.map .d))]⟩) fun b4 =>
 .bind true (fun SP=>cb r f→0≤SP∧SP≤1099511627776)
 (.loop (default:Sum (DQ) (Int)) (fun i15=>i15.1≤x1.aw.length∧(cb r f→0≤i15.2∧i15.2≤1099511627776)) (fun i15=>x1.aw.length - i15.1) ((0,b4.A8):Nat × Int)
 (fun (i15:Nat × Int)=>⟨[(116,iv ((i15.1:Nat):Int))],[(14,.box [iv b4.sum,iv b4.mI,iv i15.2,iv b4.exchange,iv b4.WT,iv b4.rest,iv b4.au])]⟩) fun i15 =>
 .lt 114 0 i15.1 x1.aw.length
 (.r 17 (.p (bU ((i15.1:Nat):Int) x1.aw.length)) fun _ =>
 .br ((((x1.aw.getD i15.1 default).kind) == 4)||(((x1.aw.getD i15.1 default).kind) == 5))
 (.r 20 .z fun _ =>
 .wi 116 (ar (((i15.1:Nat):Int)+1)) ((i15.1+1:Nat):Int) <|
 .fin (.inr (i15.1+1,cq 1099511627776 (ar (i15.2+((x1.aw.getD i15.1 default).sum))))))
 (.nx 20 116 i15.1 (i15.1+1,i15.2)))
 (.fin (.inl (.inr i15.2))))
 (fun (SP:Int)=>⟨[],[(14,.box [iv b4.sum,iv b4.mI,iv SP,iv b4.exchange,iv b4.WT,iv b4.rest,iv b4.au])]⟩) fun SP =>
 .fin ({ b4 with A8:=SP,rest:=cq 1099511627776 (ar ((ar ((ar (b4.sum+b4.mI))+SP))+b4.exchange)) }))
def iq r forum f sign day:=(jG r forum f sign day).val
theorem Kk (r:ah) (forum:Int) (f:ak) (sign:Int) (day:Int) (hP:cb r f∧r.dg):(jG r forum f sign day).dj (fun (x:DQ)=>0≤x.rest∧x.rest≤1099511627776):=by
  refine Sk.bz _ ?_
  unfold jG
  simp only [Sk.de,Sk.aI,reduceCtorEq,ON,kk,kp,nz,ny,eX,bW,oS,eZ,tx,aV,maxLen]
  obtain ⟨hF,hR⟩:=hP
  have aeJ:=hF.Rs
  have hSm:=hF.small
  have hw:∀ h1:ak,h1=ai f day→0≤sign→sign < (h1.af.length:Int)→0≤(h1.af.getD sign.toNat default).dQ∧(h1.af.getD sign.toNat default).dQ < (r.bu.length:Int):=fun h1 e a b=>by subst e; exact hF.abb day a b
  have ha:∀ h1:ak,h1=ai f day→∀ q:Nat,q < h1.aw.length→0≤(h1.aw.getD q default).sum∧(h1.aw.getD q default).sum≤1099511627776:=fun h1 e q hq=>by subst e; exact (hF.RJ day).2.2.2 q hq
  all_goals (repeat' first | assumption | (apply And.intro) | (intro h))
  all_goals first | trivial | assumption | omega | (try simp only [hF,hR,aeJ,hSm,and_self,and_true,true_implies,forall_const,LN] at *) <;> first | omega | assumption | exact (hw _ ‹_=ai f day› (by omega) (by omega)).1 | exact (hw _ ‹_=ai f day› (by omega) (by omega)).2 | (simp (disch:=omega) only [aA] at *; omega) | (simp (disch:=omega) only [aA,cq] at *; split <;> omega) | (have hq:=ha _ ‹_=ai f day› _ (Int.ofNat_lt.1 (by assumption)); simp (disch:=omega) only [aA,cq] at *; first | omega | (split <;> omega))

theorem zC (r:ah) (forum:Int) (f:ak) (sign:Int) (day:Int):(fun (x:DQ)=>(cb r f∧r.dg)→(0≤x.rest∧x.rest≤1099511627776)) (iq r forum f sign day):=fun hP=>Sk.dk _ (Kk r forum f sign day hP)
theorem Na (r:ah) (forum:Int) (f:ak) (sign:Int) (day:Int) (hF:cb r f) (bj:f.Small) (bR:r.cj) (aX:r.Small) (gY:r.im) (gw:r.dg):(jG r forum f sign day).bC (fun _=>True):=by
  refine Sk.aR _ ?_
  unfold jG
  simp only [Sk.ju,Sk.aI,reduceCtorEq,ON,kk,kp,nz,ny,eX,bW,oS,eZ,tx,aV,maxLen]
  have aeJ:=hF.Rs
  have hSm:=hF.small
  have hw:∀ h1:ak,h1=ai f day→0≤sign→sign < (h1.af.length:Int)→0≤(h1.af.getD sign.toNat default).dQ∧(h1.af.getD sign.toNat default).dQ < (r.bu.length:Int):=fun h1 e a b=>by subst e; exact hF.abb day a b
  have ha:∀ h1:ak,h1=ai f day→∀ q:Nat,q < h1.aw.length→0≤(h1.aw.getD q default).sum∧(h1.aw.getD q default).sum≤1099511627776:=fun h1 e q hq=>by subst e; exact (hF.RJ day).2.2.2 q hq
  all_goals (repeat' first | assumption | (apply And.intro) | (intro h))
  all_goals first | trivial | assumption | omega | (try simp only [hF,gw,aeJ,hSm,and_self,and_true,true_implies,forall_const,LN] at *) <;> first | omega | assumption | exact (hw _ ‹_=ai f day› (by omega) (by omega)).1 | exact (hw _ ‹_=ai f day› (by omega) (by omega)).2 | (simp (disch:=omega) only [aA] at *; omega) | (simp (disch:=omega) only [aA,cq] at *; split <;> omega) | (have hq:=ha _ ‹_=ai f day› _ (Int.ofNat_lt.1 (by assumption)); simp (disch:=omega) only [aA,cq] at *; first | omega | (split <;> omega))

def yq r forum f sign day:=kk tok mixed Tryz.func121 [av r.cells,iv forum,av f.cells,iv sign,iv day] (fun x=>av x.cells) true (jG r forum f sign day) (iq r forum f sign day) (u6 (Na r forum f sign day)) (fun (x:DQ)=>(cb r f∧r.dg)→(0≤x.rest∧x.rest≤1099511627776)) (zC r forum f sign day)
def mV (r:ah) (forum:Int) (f:ak) (day:Int):Sk ((List Claim)) :=
 .r 1 ((HL r forum f day).c) fun x1 =>
 .br (!x1.2)
 (.fin [])
 (.r 4 ((wu r forum f day).c) fun x2 =>
 .bind true (fun b3=>b3.length≤1000000)
 (.loop (default:Sum ((List Claim)) ((List Claim))) (fun i4=>i4.1≤x1.1.view.lead.length∧i4.2.length≤i4.1 * 10000) (fun i4=>x1.1.view.lead.length - i4.1) ((0,[]):Nat × (List Claim))
 (fun (i4:Nat × (List Claim))=>⟨[(42,iv ((i4.1:Nat):Int))],[(100366,bw 83 9 Claim.cells i4.2),(12,.box [ow 100366 i4.2])]⟩) fun i4 =>
 .lt 40 0 i4.1 x1.1.view.lead.length
 (.bind true (fun b5=>b5.length≤i4.2.length+10000)
 (.r 8 (.p (bU ((i4.1:Nat):Int) x1.1.view.lead.length)) fun _ =>
 .r 9 ((sT x1.1.view (x1.1.view.lead.getD i4.1 default)).c) fun x6 =>
 .r 10 ((wz x1.1 x6).c) fun _ =>
 .bind true (fun b8=>b8.length≤i4.2.length+10000)
 (.rf (mn x1.1 x6) (fun ki9 i9=>i9.length≤i4.2.length+ki9 * 100) (fun (_:Unit)=>False) 2 (i4.2:(List Claim))
 (fun (i9:(List Claim))=>[(100534,bw 83 9 Claim.cells i9),(12,.box [ow 100534 i9])]) (fun (_:Unit)=>[])
 (fun i9 WV =>
 .bind true (fun b12=>b12.length≤i9.length+100)
 (.r 12 ((sa x1.1.view (x1.1.view.lead.getD i4.1 default) WV.sign x6).c) fun Ka =>
 .bind true (fun SP=>SP.2.length≤i9.length+Ka.length)
 (.loop (default:Sum (Sum (Sum (Unit) ((List Claim))) ((List Claim))) (Int × (List Claim))) (fun i15=>i15.1≤Ka.length∧i15.2.length≤i9.length+i15.1) (fun i15=>Ka.length - i15.1) ((0,i9):Nat × (List Claim))
 (fun (i15:Nat × (List Claim))=>⟨[(62,iv ((i15.1:Nat):Int))],[(100548,bw 83 9 Claim.cells i15.2),(12,.box [ow 100548 i15.2])]⟩) fun i15 =>
 .lt 60 0 i15.1 Ka.length
 (.r 14 (.p (bU ((i15.1:Nat):Int) Ka.length)) fun _ =>
 .r 15 (.p (bU (Ka.getD i15.1 default) x1.1.view.now.af.length)) fun _ =>
 .r 16 ((sc x1.1 WV (Ka.getD i15.1 default) x6 x2).c) fun x16 =>
 .br ((x16.1 == 0)||(((x1.1.view.now.af.getD ((Ka.getD i15.1 default).toNat) default).dQ) == WV.gD))
 (.nx 20 62 i15.1 (i15.1+1,i15.2))
 (.r 18 ((yq r forum f (Ka.getD i15.1 default) day).c) fun x17 =>
 .r 19 (.aj (.o [.eG (fm Claim.E [({ bL:=(x1.1.view.now.af.getD ((Ka.getD i15.1 default).toNat) default).dQ,aH:=WV.gD,part:=x1.1.view.lead.getD i4.1 default,sign:=Ka.getD i15.1 default,c9:=WV.sign,dF:=x16.2,sum:=x17.rest,au:=f.aU.au,state:=x16.1 }:Claim)])]) (.aj (.o [.eG (mY Claim.E i15.2 [({ bL:=(x1.1.view.now.af.getD ((Ka.getD i15.1 default).toNat) default).dQ,aH:=WV.gD,part:=x1.1.view.lead.getD i4.1 default,sign:=Ka.getD i15.1 default,c9:=WV.sign,dF:=x16.2,sum:=x17.rest,au:=f.aU.au,state:=x16.1 }:Claim)])]) (.aj (.t (Claim.E.ou [({ bL:=(x1.1.view.now.af.getD ((Ka.getD i15.1 default).toNat) default).dQ,aH:=WV.gD,part:=x1.1.view.lead.getD i4.1 default,sign:=Ka.getD i15.1 default,c9:=WV.sign,dF:=x16.2,sum:=x17.rest,au:=f.aU.au,state:=x16.1 }:Claim)])) (.p (yE i15.2.length [({ bL:=(x1.1.view.now.af.getD ((Ka.getD i15.1 default).toNat) default).dQ,aH:=WV.gD,part:=x1.1.view.lead.getD i4.1 default,sign:=Ka.getD i15.1 default,c9:=WV.sign,dF:=x16.2,sum:=x17.rest,au:=f.aU.au,state:=x16.1 }:Claim)].length 72))))) fun _ =>
 .r 20 .z fun _ =>
 .wi 62 (ar (((i15.1:Nat):Int)+1)) ((i15.1+1:Nat):Int) <|
 .fin (.inr (i15.1+1,i15.2++[({ bL:=(x1.1.view.now.af.getD ((Ka.getD i15.1 default).toNat) default).dQ,aH:=WV.gD,part:=x1.1.view.lead.getD i4.1 default,sign:=Ka.getD i15.1 default,c9:=WV.sign,dF:=x16.2,sum:=x17.rest,au:=f.aU.au,state:=x16.1 }:Claim)]))))
 (.fin (.inl (.inr (((i15.1:Nat):Int),i15.2)))))
 (fun (SP:Int × (List Claim))=>⟨[(62,iv SP.1)],[(100547,bw 83 9 Claim.cells SP.2),(12,.box [ow 100547 SP.2])]⟩) fun SP =>
 .fin (.inr SP.2))
 (fun (b12:(List Claim))=>⟨[],[(100545,bw 83 9 Claim.cells b12),(12,.box [ow 100545 b12])]⟩) fun b12 =>
 .fin (.inr b12)) fun r=>match r with
 | .inl _=>(.dead default)
 | .inr j18=>(.fin (.inr j18)))
 (fun (b8:(List Claim))=>⟨[],[(100526,bw 83 9 Claim.cells b8),(12,.box [ow 100526 b8])]⟩) fun b8 =>
 .fin (.inr b8))
 (fun (b5:(List Claim))=>⟨[],[(100503,bw 83 9 Claim.cells b5),(12,.box [ow 100503 b5])]⟩) fun b5 =>
 .nx 21 42 i4.1 (i4.1+1,b5))
 (.fin (.inl (.inr i4.2))))
 (fun (b3:(List Claim))=>⟨[],[(100274,bw 83 9 Claim.cells b3),(12,.box [ow 100274 b3])]⟩) fun b3 =>
 .fin b3)
def cm r forum f day:=(mV r forum f day).val
theorem D6 (r:ah) (forum:Int) (f:ak) (day:Int) (hF:cb r f) (bj:f.Small) (bR:r.cj) (aX:r.Small) (gY:r.im) (gw:r.dg):(mV r forum f day).bC (fun _=>True):=by
  refine Sk.aR _ ?_
  unfold mV
  simp only [Sk.ju,Sk.aI,reduceCtorEq,ON,kk,kp,Sk.de,yq,wu,wz,sc,HL,sa,sT,mn,Sum.forall,DK,forall_eq,maxLen]
  refine ⟨⟨bj,bR,aX⟩,?_⟩
  generalize aF r forum f day=x
  intro hx hc
  have he:=(hx (by simpa using hc)).1
  have ho:=D3 f day
  dsimp only at ho
  have rq:x.1.view.all=f:=by rw [he]; exact ho.1
  have Nb:x.1.view.now=ai f day:=by rw [he]; exact ho.2.1
  have abq:x.1.view.day=day:=by rw [he]; exact ho.2.2.1
  have hxr:x.1.r=r:=by rw [he]
  have aia:=hF.2.1.1
  have agq:x.1.view.lead.length≠0∧x.1.view.lead.length≤41:=by rw [he]; exact ⟨ho.2.2.2.1,by have:=ho.2.2.2.2; show (aD f day).lead.length≤41; omega⟩
  have hsg:=oO f day
  have agr:x.1.view.kQ:=by unfold View.kQ; rw [Nb]; exact hF.RK day
  have xP:∀ part,(al x.1.view part).length≤40∧∀ y,y∈al x.1.view part→0≤y∧y < ((ai f day).af.length:Int):=fun part=>by
    have h:=pC x.1.view part
    rw [rq,abq] at h
    exact ⟨Nat.le_trans h.1 aia,fun y hy=>⟨(h.2 y hy).1,hF.adD (h.2 y hy).1 (h.2 y hy).2.1 (h.2 y hy).2.2⟩⟩
  have hlg:∀ part i,i < (al x.1.view part).length→0≤(al x.1.view part).getD i default∧(al x.1.view part).getD i default < ((ai f day).af.length:Int):=fun part i hi=>(xP part).2 _ (vT hi _)
  have QK:∀ part,WS x.1 (al x.1.view part):=fun part=>by
    refine ⟨by have:=(xP part).1; omega,fun i hi=>by rw [Nb]; exact hlg part i hi,fun i hi=>?_⟩
    have hs:x.1.view.now.Small:=by rw [Nb]; exact Cb bj day
    have hb:x.1.r.cj:=by rw [hxr]; exact bR
    have hr:x.1.r.Small:=by rw [hxr]; exact aX
    exact ⟨hs,hb,hr⟩
  have hol:∀ part k y,(bK x.1 (al x.1.view part))[k]? = some y→k≤40:=fun part k y h=>by
    have h1:=(List.getElem?_eq_some_iff.1 h).1
    have h2:=EI x.1 (al x.1.view part)
    have h3:=(xP part).1
    omega
  have NU:∀ part b l,(bA x.1.view part b l).length≤40∧∀ i,i < (bA x.1.view part b l).length→0≤(bA x.1.view part b l).getD i default∧(bA x.1.view part b l).getD i default < ((ai f day).af.length:Int):=fun part b l=>by
    have h:=tX x.1.view part b l
    rw [Nb] at h
    exact ⟨Nat.le_trans h.1 (by omega),fun i hi=>h.2 _ (vT hi _)⟩
  refine ⟨⟨bj,bR,aX⟩,fun hE=>⟨⟨Nat.zero_le _,by simp⟩,fun i hi hm=>⟨fun gI=>⟨⟨by simp only [LN] at gI; omega,fun _=>⟨by rw [rq]; exact bj,fun _ _=>⟨⟨QK _,by omega,fun k s y hs hy=>?_,?_⟩,?_⟩⟩⟩,?_⟩,?_⟩⟩⟩
  · have hk:=hol _ _ _ hy
    obtain ⟨hn,hg⟩:=NU (x.1.view.lead.getD i.1 default) y.sign (al x.1.view (x.1.view.lead.getD i.1 default))
    have AU:∀ (l:List Claim) (c:Claim),(l++[c]).length=l.length+1:=fun l c=>by simp
    have aiZ:i.2.length≤410000:=by simp only [LN] at gI; omega
    refine ⟨⟨fun _=>⟨⟨⟨Nat.zero_le _,Nat.le_refl _⟩,fun j hj=>⟨fun hc _ _=>⟨fun _ _=>?_,fun _ _ _ _=>?_⟩,fun hc=>?_⟩⟩,fun b hb=>?_⟩,fun b _ hb=>?_⟩,⟨⟨agq.1,by rw [Nb]; omega⟩,fun _=>?_⟩,?_⟩
    · simp only [LN] at hc; exact ⟨⟨by omega,by omega⟩,by omega⟩
    · simp only [LN] at hc; rw [AU]; exact ⟨⟨by omega,by omega⟩,by omega⟩
    · simp only [LN] at hc; omega
    · omega
    · omega
    · have e1:x.1.view.now=ai x.1.view.all x.1.view.day:=by rw [Nb,rq,abq]
      have e2:cb x.1.r x.1.view.all:=by rw [hxr,rq]; exact hF
      have e3:x.1.view.all.Small:=by rw [rq]; exact bj
      have e4:x.1.r.cj:=by rw [hxr]; exact bR
      have e5:x.1.r.Small:=by rw [hxr]; exact aX
      have e6:(aW r forum f day).length=x.1.view.now.af.length:=by rw [Nb]; exact hE
      have h1:∀ c:Claim,[c].length=1:=fun _=>rfl
      refine ⟨⟨⟨Nat.zero_le _,Nat.le_refl _⟩,fun j hj hm2=>⟨fun hc=>?_,fun hc=>?_⟩⟩,fun b hb=>by omega⟩
      · simp only [LN] at hc
        have hgj:=hg j.1 (by omega)
        rw [← Nb] at hgj
        refine ⟨⟨by omega,by omega⟩,fun _=>⟨hgj,fun _=>⟨⟨e6,hgj,e1,e2,agr,e3,e4,e5⟩,fun _ _=>⟨(aA (by omega) (by omega)).trans (by omega),⟨by omega,by omega⟩,by omega⟩,fun _=>⟨⟨hF,bj,bR,aX,gY,gw⟩,fun _=>⟨?_,fun _ _=>⟨(aA (by omega) (by omega)).trans (by omega),⟨by omega,?_⟩,by omega⟩⟩⟩⟩⟩⟩
        · rw [h1]; omega
        · rw [AU]; omega
      · simp only [LN] at hc; omega
    · exact fun b _ hb=>by omega
  · intro b hb
    have h2:=EI x.1 (al x.1.view (x.1.view.lead.getD i.1 default))
    have h3:=(xP (x.1.view.lead.getD i.1 default)).1
    omega
  · exact fun b _ hb=>hb
  · intro b _ hb _
    simp only [LN] at gI
    exact ⟨(aA (by omega) (by omega)).trans (by omega),⟨by omega,by omega⟩,by omega⟩
  · intro hc
    simp only [LN] at hc
    omega

def R6 r forum f day:=kk tok mixed Tryz.func92 [av r.cells,iv forum,av f.cells,iv day] (fun x=>lv Claim.cells x) false (mV r forum f day) (cm r forum f day) (u6 (D6 r forum f day))
theorem Nc (r:ah) (forum:Int) (f:ak) (day:Int) (hF:cb r f) (bj:f.Small) (bR:r.cj) (aX:r.Small) (gY:r.im) (gw:r.dg):gR Tryz.prog 92 [av r.cells,iv forum,av f.cells,iv day] [] (ow 777777 (cm r forum f day)) [(777777,bw 83 9 Claim.cells (cm r forum f day))] :=
  gR.sk tok mixed (fun x=>ow 777777 x) (fun x=>[(777777,bw 83 9 Claim.cells x)]) Tryz.func92 rfl (by kernel_rfl) 3000 (mV r forum f day) (by kernel_rfl) (D6 r forum f day hF bj bR aX gY gw)
def yt (κ:Nat) (r:ah) (forum:Int) (f:ak) (day:Int):j0 ((List Claim)):=⟨Tryz.prog,92,[av r.cells,iv forum,av f.cells,iv day],fun x=>ow κ x,fun x=>[(κ,bw 83 9 Claim.cells x)],cm r forum f day,(cb r f)∧(f.Small)∧(r.cj)∧(r.Small)∧(r.im)∧(r.dg),fun h=>gR.X0 κ (Nc r forum f day h.1 h.2.1 h.2.2.1 h.2.2.2.1 h.2.2.2.2.1 h.2.2.2.2.2),fun _=>True,trivial⟩
def tB (s:Sign) (v:bD):Sk (Bool) :=
 .fin (s.dQ == v.cM)
def iG s v:=(tB s v).val
theorem tC (s:Sign) (v:bD):iG s v=(s.dQ == v.cM):=rfl
theorem Pm (s:Sign) (v:bD):(tB s v).bC (fun _=>True):=by
  unfold tB
  exact qT

def AB s v:=kk tok mixed Tryz.func94 [av s.cells,.ref v.cells] (fun x=>bv x) true (tB s v) (iG s v) (u0 (Pm s v))
def gx (s:List Sign) (v:bD):Sk (Int) :=
 .bind true (fun b1=>∀ q,q < s.length→iG (s.getD q default) v=false)
 (.loop (default:Sum (Int) (Unit)) (fun i2=>∀ q,q < i2→iG (s.getD q default) v=false) (fun i2=>s.length - i2) (0:Nat)
 (fun (i2:Nat)=>⟨[(8,iv ((i2:Nat):Int))],[]⟩) fun i2 =>
 .lt 0 0 i2 s.length
 (.r 4 (.aj (.p (bU ((i2:Nat):Int) s.length)) ((AB (s.getD i2 default) v).c)) fun x3 =>
 .br x3
 (.fin (.inl (.inl ((i2:Nat):Int))))
 (.nx 6 8 i2 (i2+1)))
 (.fin (.inl (.inr ()))))
 (fun (_:Unit)=>⟨[],[]⟩) fun _ =>
 .fin (-1)
def DS s v:=(gx s v).val
theorem zD (s:List Sign) (v:bD):(gx s v).dj (fun (x:Int)=>(x = -1∧∀ q,q < s.length→iG (s.getD q default) v=false)∨(0≤x∧x < s.length∧iG (s.getD x.toNat default) v=true∧∀ q,(q:Nat) < x.toNat→iG (s.getD q default) v=false)):=by
  unfold gx
  try simp only [AB,tC]
  exact Ww

theorem AD (s:List Sign) (v:bD):(gx s v).bC (fun _=>True):=by
  unfold gx
  try simp only [AB,tC]
  exact Bu

def m6 s v:=kp tok mixed Tryz.func122 [lv Sign.cells s,.fn 94 [.ref v.cells]] (fun x=>iv x) true (DS s v) (u0 (AD s v)) (zD s v)
def eK (s:List Sign) (v:bD):Sk (Bool) :=
 .r 1 ((m6 s v).c) fun x1 =>
 .fin (decide (x1≥0))
def mw s v:=(eK s v).val
theorem wE (s:List Sign) (v:bD):(eK s v).dj (fun (x:Bool)=>(x=true↔∃ q,q < s.length∧iG (s.getD q default) v=true)):=by
  unfold eK
  try simp only [m6]
  exact Fz

theorem xb (s:List Sign) (v:bD):(eK s v).bC (fun _=>True):=by
  unfold eK
  try simp only [m6]
  exact qT

def ig s v:=kp tok mixed Tryz.func93 [lv Sign.cells s,.fn 94 [.ref v.cells]] (fun x=>bv x) true (mw s v) (u0 (xb s v)) (wE s v)
structure Step where
  bL:Int
  aH:Int
  sign:Int
  sum:Int
  deriving Inhabited
def Step.cells (c:Step):List D:=[dI c.bL,dI c.aH,dI c.sign,dI c.sum]
def Step.E:P5 Step:=⟨Step.cells,4,fun _=>rfl,fun _=>rfl⟩
def kd (s:List Claim):Sk ((List Claim)) :=
 .VM 0 s.length
 (.KF <|
 .fin [])
 (.Dz <|
 .r 3 (.aj (.o [.eG (fm Claim.E ([]:List Claim))]) (.aj (.o [.eG (mY Claim.E ([]:List Claim) s)]) (.aj (.t (Claim.E.src s)) (.p (yE (([]:List Claim).length) s.length 72))))) fun _ =>
 .fin (([]:List Claim)++s))
def si s:=(kd s).val
theorem H0 (s:List Claim):(kd s).dj (fun (x:(List Claim))=>x.length=s.length∧x=s):=by
  unfold kd
  simp [Sk.dj,fm,mY]
theorem xD (s:List Claim):(fun (x:(List Claim))=>x.length=s.length∧x=s) (si s):=have h:=Sk.dk _ (H0 s); h
theorem Kl (s:List Claim) (hs:s.length≤1000000000):(kd s).bC (fun _=>True):=by
  unfold kd
  exact mA

theorem H2 (s:List Claim) (hs:s.length≤1000000000):gR Tryz.prog 123 [lv Claim.cells s] [] (ow 777777 (si s)) [(777777,bw 83 9 Claim.cells (si s))] :=
  gR.sk tok mixed (fun x=>ow 777777 x) (fun x=>[(777777,bw 83 9 Claim.cells x)]) Tryz.func123 rfl (by kernel_rfl) 3000 (kd s) (by kernel_rfl) (Kl s hs)
def qy (κ:Nat) (s:List Claim):j0 ((List Claim)):=⟨Tryz.prog,123,[lv Claim.cells s],fun x=>ow κ x,fun x=>[(κ,bw 83 9 Claim.cells x)],si s,(s.length≤1000000000),fun h=>gR.X0 κ (H2 s h),fun (x:(List Claim))=>x.length=s.length∧x=s,xD s⟩
def vj (a:bD) (bO:Bool) (c_:Claim):Sk (Bool) :=
 .fin ((c_.aH == a.cM)||((c_.aH == (-1))&&bO))
def eE a bO c_:=(vj a bO c_).val
theorem kI (a:bD) (bO:Bool) (c_:Claim):eE a bO c_=((c_.aH == a.cM)||((c_.aH == (-1))&&bO)):=rfl
theorem R7 (a:bD) (bO:Bool) (c_:Claim):(vj a bO c_).bC (fun _=>True):=by
  unfold vj
  exact qT

def xE a bO c_:=kk tok mixed Tryz.func124 [av a.cells,bv bO,av c_.cells] (fun x=>bv x) true (vj a bO c_) (eE a bO c_) (u0 (R7 a bO c_))
structure Key where
  bL:Int
  aH:Int
  part:Int
  sign:Int
  c9:Int
  deriving Inhabited
def Key.cells (c:Key):List D:=[dI c.bL,dI c.aH,dI c.part,dI c.sign,dI c.c9]
def Dk (c_:Claim):Sk (Key) :=
 .fin ({ bL:=c_.bL,aH:=c_.aH,part:=c_.part,sign:=c_.sign,c9:=c_.c9 }:Key)
def abA c_:=(Dk c_).val
theorem Dl (c_:Claim):abA c_=({ bL:=c_.bL,aH:=c_.aH,part:=c_.part,sign:=c_.sign,c9:=c_.c9 }:Key):=rfl
theorem Zy (c_:Claim):(Dk c_).bC (fun _=>True):=by
  unfold Dk
  exact qT

def tZ c_:=kk tok mixed Tryz.func157 [av c_.cells] (fun x=>av x.cells) true (Dk c_) (abA c_) (u0 (Zy c_))
def xF (a:Int) (b:Int):Sk (Int) :=
 .r 1 (.aj (.o [.eG (fm dm [a,b])]) ((rb [a,b]).c)) fun x1 =>
 .fin x1
def dN a b:=(xF a b).val
theorem UO (a:Int) (b:Int):(xF a b).bC (fun _=>True):=by
  unfold xF
  try simp only [rb]
  exact qT

def iH a b:=kk tok mixed Tryz.func20 [iv a,iv b] (fun x=>iv x) true (xF a b) (dN a b) (u0 (UO a b))
/-- two R8 with I8 same key -/
def gy (x y:Claim):Prop:=x.bL=y.bL∧x.aH=y.aH∧x.part=y.part∧x.sign=y.sign∧x.c9=y.c9
/-- a kV put to others: I8 first one of its key is aib by f,or it is new -/
def uG (f:Claim→Claim) (l:List Claim) (c:Claim) (x:List Claim):Prop :=
  (∃ i,i < l.length∧gy (l.getD i default) c∧x=l.set i (f (l.getD i default)))∨((∀ i,i < l.length→¬ gy (l.getD i default) c)∧x=l++[c])
def fG (c x:Claim):Claim:={ x with sum:=bX x.sum c.sum,state:=dN c.state x.state }
def fJ (c x:Claim):Claim:={ x with sum:=cq 1099511627776 (ar (x.sum+c.sum)),state:=dN x.state c.state }
/-- YD a KJ aiE from a kV -/
def j3 (a:bD) (x:Claim):Int:=cq (bX 0 a.sum) (bX 0 x.sum)
def iu (a:bD) (st:Bool) (x:Claim):Claim:=bif eE a st x then { x with sum:=ar (bX 0 x.sum - j3 a x) } else x
/-- I8 same but for sum and state -/
def Cy (x y:Claim):Prop:=gy x y∧x.dF=y.dF∧x.au=y.au
theorem Cy.rfl' (x:Claim):Cy x x:=⟨⟨rfl,rfl,rfl,rfl,rfl⟩,rfl,rfl⟩
theorem Cy.trans {x y z:Claim} (h:Cy x y) (k:Cy y z):Cy x z:=⟨⟨h.1.1.trans k.1.1,h.1.2.1.trans k.1.2.1,h.1.2.2.1.trans k.1.2.2.1,h.1.2.2.2.1.trans k.1.2.2.2.1,h.1.2.2.2.2.trans k.1.2.2.2.2⟩,h.2.1.trans k.2.1,h.2.2.trans k.2.2⟩
/-- a agV sum and state are as ai0 may be -/
def Gs (x:Claim):Prop:=ma x.sum∧(x.state=1∨x.state=2)
theorem WW {a b:Int} (ha:a=1∨a=2) (hb:b=1∨b=2):dN a b=1∨dN a b=2:=by
  rcases ha with rfl | rfl <;> rcases hb with rfl | rfl
  · exact .inl (by kernel_rfl)
  · exact .inr (by kernel_rfl)
  · exact .inr (by kernel_rfl)
  · exact .inr (by kernel_rfl)
/-- a kV VS comes of a KJ for a kV of l -/
def Sub (l:List Claim) (a:bD) (c:Claim):Prop:=(c.aH=a.dQ∧c.c9=a.at_∧c.bL≠a.dQ)∧(∃ x∈l,x.bL=c.bL∧x.part=c.part∧x.sign=c.sign∧x.au=c.au)∧((∀ x∈l,Gs x)→Gs c)
def Nd (l:List Claim) (a:bD) (pa:List Claim):Prop:=(∀ c∈pa,Sub l a c)∧pa.Pairwise fun x y=>¬ gy x y
theorem abB {a b:Int} (ha:ma a) (hb:ma b):ma (bX a b):=by unfold bX ma at *; split <;> omega
theorem gy.comm {x y:Claim} (h:gy x y):gy y x:=⟨h.1.symm,h.2.1.symm,h.2.2.1.symm,h.2.2.2.1.symm,h.2.2.2.2.symm⟩
theorem gy.tr {x y z:Claim} (h:gy x y) (k:gy y z):gy x z:=⟨h.1.trans k.1,h.2.1.trans k.2.1,h.2.2.1.trans k.2.2.1,h.2.2.2.1.trans k.2.2.2.1,h.2.2.2.2.trans k.2.2.2.2⟩
theorem UP {l:List Claim} {i:Nat} {y x:Claim} (h:x∈l.set i y):x=y∨x∈l:=by
  rcases List.mem_or_eq_of_mem_set h with h | h
  · exact .inr h
  · exact .inl h
theorem od {l:List Claim} {i:Nat} (h:i < l.length):l.getD i default∈l:=vT h _
theorem Gt {l:List Claim} {i j:Nat} {y:Claim} (h:j < l.length):(l.set i y).getD j default=if i=j then y else l.getD j default:=by
  simp only [List.getD,List.getElem?_set]
  split
  · subst_vars; simp [h]
  · rfl
theorem Nd.group {l:List Claim} {a:bD} {pa x:List Claim} {c:Claim} (h:Nd l a pa) (hc:Sub l a c) (hm:uG (fG c) pa c x):Nd l a x:=by
  rcases hm with ⟨i,hi,hk,rfl⟩ | ⟨hn,rfl⟩
  · have hs:=h.1 _ (od hi)
    have hx:gy (fG c (pa.getD i default)) (pa.getD i default):=⟨rfl,rfl,rfl,rfl,rfl⟩
    refine ⟨fun z hz=>?_,?_⟩
    · rcases UP hz with rfl | hz
      · exact ⟨hs.1,hs.2.1,fun hP=>⟨abB (hs.2.2 hP).1 (hc.2.2 hP).1,WW (hc.2.2 hP).2 (hs.2.2 hP).2⟩⟩
      · exact h.1 z hz
    · rw [List.pairwise_iff_getElem]
      intro p q hp hq hpq
      have hp':p < pa.length:=by simpa using hp
      have QS:q < pa.length:=by simpa using hq
      have h0:=List.pairwise_iff_getElem.1 h.2 p q hp' QS hpq
      simp only [List.getElem_set]
      have e:∀ j (hj:j < pa.length),i=j→gy (fG c (pa.getD i default)) pa[j]:=by
        rintro j hj rfl
        simpa [List.getD,hj] using hx
      intro hk2
      apply h0
      split at hk2 <;> split at hk2
      · omega
      · exact (e p hp' ‹_›).comm.tr hk2
      · exact hk2.tr (e q QS ‹_›)
      · exact hk2
  · refine ⟨fun z hz=>?_,?_⟩
    · rcases List.mem_append.1 hz with hz | hz
      · exact h.1 z hz
      · rw [List.mem_singleton.1 hz]; exact hc
    · rw [List.pairwise_append]
      refine ⟨h.2,List.pairwise_singleton _ _,fun x hx y hy=>?_⟩
      rw [List.mem_singleton.1 hy]
      obtain ⟨j,hj,rfl⟩:=List.getElem_of_mem hx
      have:=hn j hj
      rwa [show pa.getD j default=pa[j] by simp [List.getD,hj]] at this
/-- a list agW twins is not aic ai1 one VS holds it -/
theorem Qr {α:Type}:∀ (l D:List α),l.Pairwise (·≠·)→(∀ x∈l,x∈D)→l.length≤D.length
  | [],D,_,_=>Nat.zero_le _
  | x :: r,D,hp,hs=>by
    classical
    have hx:x∈D:=hs x (by simp)
    rw [List.pairwise_cons] at hp
    have:=Qr r (D.erase x) hp.2 (fun y hy=>(List.mem_erase_of_ne (fun e=>hp.1 y hy e.symm)).2 (hs y (by simp [hy])))
    rw [List.length_erase_of_mem hx] at this
    have N3:0 < D.length:=List.length_pos_of_mem hx
    simp only [List.length_cons]
    omega
def UQ (x:Claim):Int × Int × Int:=(x.bL,x.part,x.sign)
theorem Nd.len {l:List Claim} {a:bD} {pa:List Claim} (h:Nd l a pa) {D:List (Int × Int × Int)} (hD:∀ x∈l,UQ x∈D):pa.length≤D.length:=by
  have:=Qr (pa.map UQ) D ?_ ?_
  · simpa using this
  · rw [List.pairwise_map]
    refine List.Pairwise.imp_of_mem ?_ h.2
    intro x y hx hy vG e
    have hx:=(h.1 x hx).1
    have hy:=(h.1 y hy).1
    simp only [UQ,Prod.mk.injEq] at e
    exact vG ⟨e.1,hx.1.trans hy.1.symm,e.2.1,e.2.2,hx.2.1.trans hy.2.1.symm⟩
  · intro z hz
    obtain ⟨c,hc,rfl⟩:=List.mem_map.1 hz
    obtain ⟨x,hx,e1,e2,e3,-⟩:=(h.1 c hc).2.1
    have:=hD x hx
    rwa [show UQ x=UQ c by simp [UQ,e1,e2,e3]] at this
/-- I8 R8 while I8 KJ goes over afh -/
def H3 (l:List Claim) (a:bD) (st:Bool) (k:Nat) (out pa:List Claim):Prop :=
  out.length=l.length∧(∀ i,i < l.length→out.getD i default=if i < k then iu a st (l.getD i default) else l.getD i default)∧Nd l a pa
theorem H3.init (l:List Claim) (a:bD) (st:Bool):H3 l a st 0 l []:=⟨rfl,fun i _=>by simp,fun c hc=>by simp at hc,.nil⟩
theorem H3.skip {l:List Claim} {a:bD} {st:Bool} {k:Nat} {out pa:List Claim} (h:H3 l a st k out pa) (hk:k < l.length) (hm:eE a st (l.getD k default)=false):H3 l a st (k+1) out pa:=by
  refine ⟨h.1,fun i hi=>?_,h.2.2⟩
  rw [h.2.1 i hi]
  by_cases hik:i=k
  · subst hik; rw [if_neg (Nat.lt_irrefl i),if_pos (Nat.lt_succ_self i)]; unfold iu; rw [hm]; rfl
  · by_cases h1:i < k
    · rw [if_pos h1,if_pos (by omega)]
    · rw [if_neg h1,if_neg (by omega)]
theorem H3.meet {l:List Claim} {a:bD} {st:Bool} {k:Nat} {out pa ags:List Claim} (h:H3 l a st k out pa) (hk:k < l.length) (hm:eE a st (l.getD k default)=true) (hi:Nd l a ags) :
    H3 l a st (k+1) (out.set k { out.getD k default with sum:=ar (bX 0 (l.getD k default).sum - j3 a (l.getD k default)) }) ags:=by
  have SU:=h.2.1 k hk
  rw [if_neg (Nat.lt_irrefl k)] at SU
  refine ⟨by rw [List.length_set]; exact h.1,fun i hi=>?_,hi⟩
  rw [Gt (by rw [h.1]; exact hi)]
  by_cases hik:k=i
  · subst hik; rw [if_pos rfl,if_pos (by omega),SU]; unfold iu; rw [hm]; rfl
  · rw [if_neg hik,h.2.1 i hi]
    by_cases h1:i < k
    · rw [if_pos h1,if_pos (by omega)]
    · rw [if_neg h1,if_neg (by omega)]
theorem UR {l:List Claim} {a:bD} {c:Claim} (hc:c∈l) (hd:c.bL≠a.dQ) (s:Int) (hs:s=j3 a c):Sub l a { c with aH:=a.dQ,c9:=a.at_,sum:=s }:=by
  subst hs
  refine ⟨⟨rfl,rfl,hd⟩,⟨c,hc,rfl,rfl,rfl,rfl⟩,fun hP=>?_⟩
  have:=(hP c hc).1
  refine ⟨?_,(hP c hc).2⟩
  unfold ma at *
  show 0≤j3 a c∧j3 a c≤1099511627776
  unfold j3 cq bX
  constructor <;> (repeat' split) <;> omega
/-- I8 R8 while I8 new ou are aid to afh -/
def Inv1 (a:bD) (m pa:List Claim) (k:Nat) (v:List Claim):Prop :=
  (m.length≤v.length∧v.length≤m.length+k)∧(∀ i,i < m.length→Cy (v.getD i default) (m.getD i default)∧((m.getD i default).aH≠a.dQ→v.getD i default=m.getD i default)) ∧
    (∀ i,m.length≤i→i < v.length→∃ c∈pa,Cy (v.getD i default) c)∧((∀ x∈m,Gs x)→(∀ x∈pa,Gs x)→∀ x∈v,Gs x)
theorem Inv1.init (a:bD) (m pa:List Claim):Inv1 a m pa 0 m:=⟨⟨Nat.le_refl _,Nat.le_refl _⟩,fun i hi=>⟨Cy.rfl' _,fun _=>rfl⟩,fun i h1 h2=>absurd h2 (by omega),fun h _=>h⟩
theorem abC {c x:Claim} (hc:Gs c) (hx:Gs x):Gs (fJ c x):=by
  refine ⟨?_,WW hx.2 hc.2⟩
  unfold Gs ma at *
  show 0≤cq _ _∧cq _ _≤_
  rw [aA (by omega) (by omega)]
  unfold cq; split <;> omega
theorem Inv1.step {a:bD} {m pa v x:List Claim} {k:Nat} {c:Claim} (h:Inv1 a m pa k v) (hc:c∈pa) (hw:c.aH=a.dQ) (hm:uG (fJ c) v c x):Inv1 a m pa (k+1) x:=by
  obtain ⟨⟨h1,h2⟩,h3,h4,h5⟩:=h
  rcases hm with ⟨i,hi,hk,rfl⟩ | ⟨hn,rfl⟩
  · have hl:Cy (fJ c (v.getD i default)) (v.getD i default):=⟨⟨rfl,rfl,rfl,rfl,rfl⟩,rfl,rfl⟩
    refine ⟨⟨by simpa using h1,by rw [List.length_set]; omega⟩,fun j hj=>?_,fun j hj VH=>?_,fun hP hQ z hz=>?_⟩
    · rw [Gt (by omega)]
      split
      · subst_vars
        refine ⟨hl.trans (h3 _ hj).1,fun vG=>absurd ?_ vG⟩
        have e2:=hk.2.1
        have e3:=(h3 _ hj).1.1.2.1
        rw [← e3,e2,hw]
      · exact h3 j hj
    · rw [List.length_set] at VH
      rw [Gt VH]
      split
      · subst_vars
        obtain ⟨d,hd,e⟩:=h4 _ hj VH
        exact ⟨d,hd,hl.trans e⟩
      · exact h4 j hj VH
    · rcases UP hz with rfl | hz
      · exact abC (hQ c hc) (h5 hP hQ _ (od hi))
      · exact h5 hP hQ z hz
  · have e:∀ j,j < v.length→(v++[c]).getD j default=v.getD j default:=fun j hj=>by simp [List.getD,List.getElem?_append_left hj]
    refine ⟨⟨by simp; omega,by simp; omega⟩,fun j hj=>?_,fun j hj VH=>?_,fun hP hQ z hz=>?_⟩
    · rw [e j (by omega)]; exact h3 j hj
    · by_cases hjv:j < v.length
      · rw [e j hjv]; exact h4 j hj hjv
      · have:j=v.length:=by simp at VH; omega
        subst this
        exact ⟨c,hc,by simp [List.getD]; exact Cy.rfl' _⟩
    · rcases List.mem_append.1 hz with hz | hz
      · exact h5 hP hQ z hz
      · rw [List.mem_singleton.1 hz]; exact hQ c hc
/-- YD a KJ makes of R8 -/
structure AE (l:List Claim) (a:bD) (st:Bool) (out:List Claim):Prop where
  len:l.length≤out.length
  old:∀ i,i < l.length→Cy (out.getD i default) (l.getD i default)∧((l.getD i default).aH≠a.dQ→out.getD i default=iu a st (l.getD i default))
  new:∀ i,l.length≤i→i < out.length→(out.getD i default).aH=a.dQ∧(out.getD i default).c9=a.at_∧(out.getD i default).bL≠a.dQ∧∃ x∈l,x.bL=(out.getD i default).bL∧x.part=(out.getD i default).part∧x.sign=(out.getD i default).sign∧x.au=(out.getD i default).au
  Rs:(∀ x∈l,Gs x)→∀ x∈out,Gs x
  few:∀ D:List (Int × Int × Int),(∀ x∈l,UQ x∈D)→out.length≤l.length+D.length
theorem Gu (a:bD) (st:Bool) (x:Claim):Cy (iu a st x) x:=by
  unfold iu
  cases eE a st x
  · exact Cy.rfl' x
  · exact ⟨⟨rfl,rfl,rfl,rfl,rfl⟩,rfl,rfl⟩
theorem KK {a:bD} {st:Bool} {x:Claim} (h:Gs x):Gs (iu a st x):=by
  unfold iu
  cases eE a st x
  · exact h
  · refine ⟨?_,h.2⟩
    unfold Gs ma at *
    have h1:0≤j3 a x∧j3 a x≤x.sum:=by unfold j3 cq bX; constructor <;> (repeat' split) <;> omega
    have h2:bX 0 x.sum=x.sum:=by unfold bX; split <;> omega
    show 0≤ar _∧ar _≤_
    rw [h2,aA (by omega) (by omega)]
    omega
theorem AE.mk' {l:List Claim} {a:bD} {st:Bool} {m pa v:List Claim} {k n:Nat} (h0:H3 l a st n m pa) (hn:n=l.length) (h1:Inv1 a m pa k v) (hk:k≤pa.length):AE l a st v:=by
  subst hn
  obtain ⟨hl,hr,hi⟩:=h0
  obtain ⟨⟨h11,h12⟩,h13,h14,h15⟩:=h1
  have hr':∀ i,i < l.length→m.getD i default=iu a st (l.getD i default):=fun i h=>by rw [hr i h,if_pos h]
  refine ⟨by omega,fun i h=>?_,fun i h h2=>?_,fun hP=>?_,fun D hD=>?_⟩
  · have h3:=h13 i (by omega)
    rw [hr' i h] at h3
    refine ⟨h3.1.trans (Gu a st _),fun vG=>h3.2 ?_⟩
    rw [(Gu a st (l.getD i default)).1.2.1]
    exact vG
  · obtain ⟨c,hc,e⟩:=h14 i (by omega) h2
    obtain ⟨⟨k1,k2,k3⟩,⟨x,hx,e1,e2,e3,e4⟩,-⟩:=hi.1 c hc
    obtain ⟨⟨f1,f2,f3,f4,f5⟩,-,f6⟩:=e
    exact ⟨f2.trans k1,f5.trans k2,fun z=>k3 (f1 ▸ z),x,hx,e1.trans f1.symm,e2.trans f3.symm,e3.trans f4.symm,e4.trans f6.symm⟩
  · refine h15 (fun x hx=>?_) (fun x hx=>(hi.1 x hx).2.2 hP)
    obtain ⟨i,gQ,rfl⟩:=List.getElem_of_mem hx
    have:=hr' i (by omega)
    rw [show m.getD i default=m[i] by simp [List.getD,gQ]] at this
    rw [this]
    exact KK (hP _ (od (by omega)))
  · have:=hi.len hD
    omega
theorem R9 {x c:Claim}:((x.bL == c.bL)&&((x.aH == c.aH)&&((x.part == c.part)&&((x.sign == c.sign)&&((x.c9 == c.c9)&&true)))))=true↔gy x c:=by
  simp only [Bool.and_eq_true,beq_iff_eq,Bool.and_true]
  exact Iff.rfl
theorem Yg {l:List Claim} {i:Nat} (h:i < l.length) (y:Claim) (s:Int):(l.set i y).set i { (l.set i y).getD i default with state:=s }=l.set i { y with state:=s }:=by
  rw [List.set_set,Gt h,if_pos rfl]
theorem Yh {l:List Claim} {c:Claim} {i:Nat} (h:∀ q,q < i→¬ gy (l.getD q default) c) (hk:(((l.getD i default).bL == c.bL)&&(((l.getD i default).aH == c.aH)&&(((l.getD i default).part == c.part)&&(((l.getD i default).sign == c.sign)&&(((l.getD i default).c9 == c.c9)&&true)))))=false):∀ q,q < i+1→¬ gy (l.getD q default) c:=by
  intro q hq e
  by_cases h1:q < i
  · exact h q h1 e
  · obtain rfl:q=i:=by omega
    rw [R9.2 e] at hk
    cases hk
theorem uG.len {f:Claim→Claim} {l x:List Claim} {c:Claim} (h:uG f l c x):x.length≤l.length+1:=by
  rcases h with ⟨i,hi,-,rfl⟩ | ⟨-,rfl⟩
  · rw [List.length_set]; omega
  · simp
def pb (l:List Claim) (c_:Claim):Sk ((List Claim)) :=
 .bind true (fun b1=>∀ q,q < l.length→¬ gy (l.getD q default) c_)
 (.loop (default:Sum ((List Claim)) (Unit)) (fun i2=>i2≤l.length∧∀ q,q < i2→¬ gy (l.getD q default) c_) (fun i2=>l.length - i2) (0:Nat)
 (fun (i2:Nat)=>⟨[(9,iv ((i2:Nat):Int))],[]⟩) fun i2 =>
 .lt 0 0 i2 l.length
 (.r 3 (.aj (.p (bU ((i2:Nat):Int) l.length)) (.p (i2 < l.length))) fun _ =>
 .r 4 (.dep ((tZ (l.getD i2 default)).c) fun _=>(tZ c_).c) fun p6 =>
 .br ((p6.1.bL == p6.2.bL)&&((p6.1.aH == p6.2.aH)&&((p6.1.part == p6.2.part)&&((p6.1.sign == p6.2.sign)&&((p6.1.c9 == p6.2.c9)&&true)))))
 (.r 5 (.aj (.p (bU ((i2:Nat):Int) l.length)) (.aj (.o [.eG (uh Claim.E l i2 ({ l.getD i2 default with sum:=bX ((l.getD i2 default).sum) c_.sum }))]) (.p (i2 < l.length)))) fun _ =>
 .wn 777776 l.length (l.set i2 ({ l.getD i2 default with sum:=bX ((l.getD i2 default).sum) c_.sum })).length <|
 .r 6 (.pz ((iH c_.state ((l.getD i2 default).state)).c) fun x5=>.aj (.p (bU ((i2:Nat):Int) ((l.set i2 ({ l.getD i2 default with sum:=bX ((l.getD i2 default).sum) c_.sum })).length))) (.aj (.o [.eG (uh Claim.E (l.set i2 ({ l.getD i2 default with sum:=bX ((l.getD i2 default).sum) c_.sum })) i2 ({ (l.set i2 ({ l.getD i2 default with sum:=bX ((l.getD i2 default).sum) c_.sum })).getD i2 default with state:=x5 }))]) (.p (i2 < (l.set i2 ({ l.getD i2 default with sum:=bX ((l.getD i2 default).sum) c_.sum })).length)))) fun x5 =>
 .wn 777776 (l.set i2 ({ l.getD i2 default with sum:=bX ((l.getD i2 default).sum) c_.sum })).length ((l.set i2 ({ l.getD i2 default with sum:=bX ((l.getD i2 default).sum) c_.sum })).set i2 ({ (l.set i2 ({ l.getD i2 default with sum:=bX ((l.getD i2 default).sum) c_.sum })).getD i2 default with state:=x5 })).length <|
 .fin (.inl (.inl ((l.set i2 ({ l.getD i2 default with sum:=bX ((l.getD i2 default).sum) c_.sum })).set i2 ({ (l.set i2 ({ l.getD i2 default with sum:=bX ((l.getD i2 default).sum) c_.sum })).getD i2 default with state:=x5 })))))
 (.nx 8 9 i2 (i2+1)))
 (.fin (.inl (.inr ()))))
 (fun (_:Unit)=>⟨[],[]⟩) fun _ =>
 .r 9 (.aj (.o [.eG (fm Claim.E [c_])]) (.aj (.o [.eG (mY Claim.E l [c_])]) (.aj (.t (Claim.E.ou [c_])) (.p (yE l.length [c_].length 72))))) fun _ =>
 .fin (l++[c_])
def re l c_:=(pb l c_).val
theorem Pn (l:List Claim) (c_:Claim):(pb l c_).dj (fun (x:(List Claim))=>uG (fG c_) l c_ x):=by
  refine Sk.bz _ ?_
  unfold pb
  simp only [Sk.de,Sk.aI,reduceCtorEq,ON,kk,kp,iH,tZ,Dl,forall_eq,maxLen]
  refine ⟨⟨⟨Nat.zero_le _,fun q hq=>absurd hq (by omega)⟩,fun i hi=>⟨fun hc _=>⟨fun hk _=>?_,fun hk _=>⟨⟨?_,Yh hi.2 hk⟩,by simp only [LN] at hc; omega⟩⟩,fun hc=>?_⟩⟩,fun _ hb _=>.inr ⟨hb,rfl⟩⟩
  all_goals simp only [LN] at hc
  · exact .inl ⟨i,by omega,R9.1 hk,Yg (by omega) _ _⟩
  · omega
  · exact fun q hq=>hi.2 q (by omega)

theorem Cz (l:List Claim) (c_:Claim):(fun (x:(List Claim))=>uG (fG c_) l c_ x) (re l c_):=have h:=Sk.dk _ (Pn l c_); h
theorem Sa (l:List Claim) (c_:Claim) (hl:l.length≤1000000000000):(pb l c_).bC (fun _=>True):=by
  refine Sk.aR _ ?_
  unfold pb
  simp only [Sk.ju,Sk.aI,reduceCtorEq,ON,kk,kp,iH,tZ,Dl,forall_eq,maxLen]
  refine ⟨⟨⟨Nat.zero_le _,fun q hq=>absurd hq (by omega)⟩,fun i hi hm=>⟨fun hc=>?_,fun hc q hq=>hi.2 q (by simp only [LN] at hc; omega)⟩⟩,fun b hb=>?_⟩
  · simp only [LN] at hc
    refine ⟨⟨⟨by omega,by omega⟩,by omega⟩,fun _=>⟨fun hk=>?_,fun hk _=>⟨(aA (by omega) (by omega)).trans (by omega),⟨by omega,Yh hi.2 hk⟩,by omega⟩⟩⟩
    simp only [List.length_set]
    refine ⟨⟨⟨by omega,by omega⟩,by omega⟩,fun _=>?_⟩
    (repeat' first | exact trivial | (apply And.intro) | (intro h))
    all_goals first | rfl | trivial | omega
  · simp only [List.length_cons,List.length_nil]
    omega

theorem Po (l:List Claim) (c_:Claim) (hl:l.length≤1000000000000):gR Tryz.prog 125 [ow 777776 l,av c_.cells] [(777776,bw 83 9 Claim.cells l)] (ow 777777 (re l c_)) [(777777,bw 83 9 Claim.cells (re l c_))] :=
  gR.sk tok mixed (fun x=>ow 777777 x) (fun x=>[(777777,bw 83 9 Claim.cells x)]) Tryz.func125 rfl (by kernel_rfl) 3000 (pb l c_) (by kernel_rfl) (Sa l c_ hl)
def pd (κ κ':Nat) (l:List Claim) (c_:Claim):yU ((List Claim)):=⟨Tryz.prog,125,[ow κ l,av c_.cells],[(κ,bw 83 9 Claim.cells l)],fun x=>ow κ' x,fun x=>[(κ',bw 83 9 Claim.cells x)],re l c_,(l.length≤1000000000000),fun h=>gR.Wu κ rfl (gR.Wt κ' (Po l c_ h)),fun (x:(List Claim))=>uG (fG c_) l c_ x,Cz l c_⟩
def rh (l:List Claim) (c_:Claim):Sk ((List Claim)) :=
 .bind true (fun b1=>∀ q,q < l.length→¬ gy (l.getD q default) c_)
 (.loop (default:Sum ((List Claim)) (Unit)) (fun i2=>i2≤l.length∧∀ q,q < i2→¬ gy (l.getD q default) c_) (fun i2=>l.length - i2) (0:Nat)
 (fun (i2:Nat)=>⟨[(9,iv ((i2:Nat):Int))],[]⟩) fun i2 =>
 .lt 0 0 i2 l.length
 (.r 3 (.aj (.p (bU ((i2:Nat):Int) l.length)) (.p (i2 < l.length))) fun _ =>
 .r 4 (.dep ((tZ (l.getD i2 default)).c) fun _=>(tZ c_).c) fun p6 =>
 .br ((p6.1.bL == p6.2.bL)&&((p6.1.aH == p6.2.aH)&&((p6.1.part == p6.2.part)&&((p6.1.sign == p6.2.sign)&&((p6.1.c9 == p6.2.c9)&&true)))))
 (.r 5 (.aj (.p (bU ((i2:Nat):Int) l.length)) (.aj (.o [.eG (uh Claim.E l i2 ({ l.getD i2 default with sum:=cq 1099511627776 (ar (((l.getD i2 default).sum)+c_.sum)) }))]) (.p (i2 < l.length)))) fun _ =>
 .wn 777776 l.length (l.set i2 ({ l.getD i2 default with sum:=cq 1099511627776 (ar (((l.getD i2 default).sum)+c_.sum)) })).length <|
 .r 6 (.pz ((iH ((l.getD i2 default).state) c_.state).c) fun x5=>.aj (.p (bU ((i2:Nat):Int) ((l.set i2 ({ l.getD i2 default with sum:=cq 1099511627776 (ar (((l.getD i2 default).sum)+c_.sum)) })).length))) (.aj (.o [.eG (uh Claim.E (l.set i2 ({ l.getD i2 default with sum:=cq 1099511627776 (ar (((l.getD i2 default).sum)+c_.sum)) })) i2 ({ (l.set i2 ({ l.getD i2 default with sum:=cq 1099511627776 (ar (((l.getD i2 default).sum)+c_.sum)) })).getD i2 default with state:=x5 }))]) (.p (i2 < (l.set i2 ({ l.getD i2 default with sum:=cq 1099511627776 (ar (((l.getD i2 default).sum)+c_.sum)) })).length)))) fun x5 =>
 .wn 777776 (l.set i2 ({ l.getD i2 default with sum:=cq 1099511627776 (ar (((l.getD i2 default).sum)+c_.sum)) })).length ((l.set i2 ({ l.getD i2 default with sum:=cq 1099511627776 (ar (((l.getD i2 default).sum)+c_.sum)) })).set i2 ({ (l.set i2 ({ l.getD i2 default with sum:=cq 1099511627776 (ar (((l.getD i2 default).sum)+c_.sum)) })).getD i2 default with state:=x5 })).length <|
 .fin (.inl (.inl ((l.set i2 ({ l.getD i2 default with sum:=cq 1099511627776 (ar (((l.getD i2 default).sum)+c_.sum)) })).set i2 ({ (l.set i2 ({ l.getD i2 default with sum:=cq 1099511627776 (ar (((l.getD i2 default).sum)+c_.sum)) })).getD i2 default with state:=x5 })))))
 (.nx 8 9 i2 (i2+1)))
 (.fin (.inl (.inr ()))))
 (fun (_:Unit)=>⟨[],[]⟩) fun _ =>
 .r 9 (.aj (.o [.eG (fm Claim.E [c_])]) (.aj (.o [.eG (mY Claim.E l [c_])]) (.aj (.t (Claim.E.ou [c_])) (.p (yE l.length [c_].length 72))))) fun _ =>
 .fin (l++[c_])
def kJ l c_:=(rh l c_).val
theorem Sb (l:List Claim) (c_:Claim):(rh l c_).dj (fun (x:(List Claim))=>uG (fJ c_) l c_ x):=by
  refine Sk.bz _ ?_
  unfold rh
  simp only [Sk.de,Sk.aI,reduceCtorEq,ON,kk,kp,iH,tZ,Dl,forall_eq,maxLen]
  refine ⟨⟨⟨Nat.zero_le _,fun q hq=>absurd hq (by omega)⟩,fun i hi=>⟨fun hc _=>⟨fun hk _=>?_,fun hk _=>⟨⟨?_,Yh hi.2 hk⟩,by simp only [LN] at hc; omega⟩⟩,fun hc=>?_⟩⟩,fun _ hb _=>.inr ⟨hb,rfl⟩⟩
  all_goals simp only [LN] at hc
  · exact .inl ⟨i,by omega,R9.1 hk,Yg (by omega) _ _⟩
  · omega
  · exact fun q hq=>hi.2 q (by omega)

theorem D7 (l:List Claim) (c_:Claim):(fun (x:(List Claim))=>uG (fJ c_) l c_ x) (kJ l c_):=have h:=Sk.dk _ (Sb l c_); h
theorem US (l:List Claim) (c_:Claim) (hl:l.length≤1000000000000):(rh l c_).bC (fun _=>True):=by
  refine Sk.aR _ ?_
  unfold rh
  simp only [Sk.ju,Sk.aI,reduceCtorEq,ON,kk,kp,iH,tZ,Dl,forall_eq,maxLen]
  refine ⟨⟨⟨Nat.zero_le _,fun q hq=>absurd hq (by omega)⟩,fun i hi hm=>⟨fun hc=>?_,fun hc q hq=>hi.2 q (by simp only [LN] at hc; omega)⟩⟩,fun b hb=>?_⟩
  · simp only [LN] at hc
    refine ⟨⟨⟨by omega,by omega⟩,by omega⟩,fun _=>⟨fun hk=>?_,fun hk _=>⟨(aA (by omega) (by omega)).trans (by omega),⟨by omega,Yh hi.2 hk⟩,by omega⟩⟩⟩
    simp only [List.length_set]
    refine ⟨⟨⟨by omega,by omega⟩,by omega⟩,fun _=>?_⟩
    (repeat' first | exact trivial | (apply And.intro) | (intro h))
    all_goals first | rfl | trivial | omega
  · simp only [List.length_cons,List.length_nil]
    omega

theorem Sc (l:List Claim) (c_:Claim) (hl:l.length≤1000000000000):gR Tryz.prog 126 [ow 777776 l,av c_.cells] [(777776,bw 83 9 Claim.cells l)] (ow 777777 (kJ l c_)) [(777777,bw 83 9 Claim.cells (kJ l c_))] :=
  gR.sk tok mixed (fun x=>ow 777777 x) (fun x=>[(777777,bw 83 9 Claim.cells x)]) Tryz.func126 rfl (by kernel_rfl) 3000 (rh l c_) (by kernel_rfl) (US l c_ hl)
def ri (κ κ':Nat) (l:List Claim) (c_:Claim):yU ((List Claim)):=⟨Tryz.prog,126,[ow κ l,av c_.cells],[(κ,bw 83 9 Claim.cells l)],fun x=>ow κ' x,fun x=>[(κ',bw 83 9 Claim.cells x)],kJ l c_,(l.length≤1000000000000),fun h=>gR.Wu κ rfl (gR.Wt κ' (Sc l c_ h)),fun (x:(List Claim))=>uG (fJ c_) l c_ x,D7 l c_⟩
def my (l:List Claim) (a:bD) (kind:Int) (bO:Bool):Sk ((List Claim) × (List Step)) :=
 .r 2 ((qy 21 l).c) fun x1 =>
 .bind true (fun b2=>H3 l a bO l.length b2.1 b2.2.2∧b2.2.1.length≤l.length∧b2.2.2.length≤l.length)
 (.loop (default:Sum ((List Claim) × (List Step)) ((List Claim) × (List Step) × (List Claim))) (fun i3=>i3.2.2.2≤l.length∧H3 l a bO i3.2.2.2 i3.1 i3.2.2.1∧i3.2.1.length≤i3.2.2.2∧i3.2.2.1.length≤i3.2.2.2) (fun i3=>l.length - i3.2.2.2) ((x1,[],[],0):(List Claim) × (List Step) × (List Claim) × Nat)
 (fun (i3:(List Claim) × (List Step) × (List Claim) × Nat)=>⟨[(8,ow 100006 i3.1),(9,ow 100007 i3.2.1),(11,ow 100008 i3.2.2.1),(24,iv ((i3.2.2.2:Nat):Int))],[(100006,bw 83 9 Claim.cells i3.1),(100007,bw 179 4 Step.cells i3.2.1),(100008,bw 83 9 Claim.cells i3.2.2.1)]⟩) fun i3 =>
 .lt 22 0 i3.2.2.2 l.length
 (.r 6 (.p (bU ((i3.2.2.2:Nat):Int) l.length)) fun _ =>
 .r 7 ((xE a bO (l.getD i3.2.2.2 default)).c) fun x4 =>
 .br (!x4)
 (.nx 14 24 i3.2.2.2 (i3.1,i3.2.1,i3.2.2.1,i3.2.2.2+1))
 (.r 9 (.aj (.p (bU ((i3.2.2.2:Nat):Int) i3.1.length)) (.aj (.o [.eG (uh Claim.E i3.1 i3.2.2.2 ({ i3.1.getD i3.2.2.2 default with sum:=ar ((bX 0 ((l.getD i3.2.2.2 default).sum)) - (cq (bX 0 a.sum) (bX 0 ((l.getD i3.2.2.2 default).sum)))) }))]) (.p (i3.2.2.2 < i3.1.length)))) fun _ =>
 .wn 100006 i3.1.length (i3.1.set i3.2.2.2 ({ i3.1.getD i3.2.2.2 default with sum:=ar ((bX 0 ((l.getD i3.2.2.2 default).sum)) - (cq (bX 0 a.sum) (bX 0 ((l.getD i3.2.2.2 default).sum)))) })).length <|
 .r 10 (.aj (.o [.eG (fm Step.E [({ bL:=(l.getD i3.2.2.2 default).bL,aH:=(l.getD i3.2.2.2 default).aH,sign:=(l.getD i3.2.2.2 default).sign,sum:=cq (bX 0 a.sum) (bX 0 ((l.getD i3.2.2.2 default).sum)) }:Step)])]) (.aj (.o [.eG (mY Step.E i3.2.1 [({ bL:=(l.getD i3.2.2.2 default).bL,aH:=(l.getD i3.2.2.2 default).aH,sign:=(l.getD i3.2.2.2 default).sign,sum:=cq (bX 0 a.sum) (bX 0 ((l.getD i3.2.2.2 default).sum)) }:Step)])]) (.aj (.t (Step.E.ou [({ bL:=(l.getD i3.2.2.2 default).bL,aH:=(l.getD i3.2.2.2 default).aH,sign:=(l.getD i3.2.2.2 default).sign,sum:=cq (bX 0 a.sum) (bX 0 ((l.getD i3.2.2.2 default).sum)) }:Step)])) (.p (yE i3.2.1.length [({ bL:=(l.getD i3.2.2.2 default).bL,aH:=(l.getD i3.2.2.2 default).aH,sign:=(l.getD i3.2.2.2 default).sign,sum:=cq (bX 0 a.sum) (bX 0 ((l.getD i3.2.2.2 default).sum)) }:Step)].length 32))))) fun _ =>
 .br (((kind != 1)&&((((l.getD i3.2.2.2 default).dF) == 0)||(decide (((l.getD i3.2.2.2 default).sign) < a.at_))))&&(((l.getD i3.2.2.2 default).bL) != a.dQ))
 (.r 13 ((pd 100008 90 i3.2.2.1 ({ l.getD i3.2.2.2 default with aH:=a.dQ,c9:=a.at_,sum:=cq (bX 0 a.sum) (bX 0 ((l.getD i3.2.2.2 default).sum)) })).c) fun x5 =>
 .r 14 .z fun _ =>
 .wi 24 (ar (((i3.2.2.2:Nat):Int)+1)) ((i3.2.2.2+1:Nat):Int) <|
 .fin (.inr (i3.1.set i3.2.2.2 ({ i3.1.getD i3.2.2.2 default with sum:=ar ((bX 0 ((l.getD i3.2.2.2 default).sum)) - (cq (bX 0 a.sum) (bX 0 ((l.getD i3.2.2.2 default).sum)))) }),i3.2.1++[({ bL:=(l.getD i3.2.2.2 default).bL,aH:=(l.getD i3.2.2.2 default).aH,sign:=(l.getD i3.2.2.2 default).sign,sum:=cq (bX 0 a.sum) (bX 0 ((l.getD i3.2.2.2 default).sum)) }:Step)],x5,i3.2.2.2+1)))
 (.r 14 .z fun _ =>
 .wi 24 (ar (((i3.2.2.2:Nat):Int)+1)) ((i3.2.2.2+1:Nat):Int) <|
 .fin (.inr (i3.1.set i3.2.2.2 ({ i3.1.getD i3.2.2.2 default with sum:=ar ((bX 0 ((l.getD i3.2.2.2 default).sum)) - (cq (bX 0 a.sum) (bX 0 ((l.getD i3.2.2.2 default).sum)))) }),i3.2.1++[({ bL:=(l.getD i3.2.2.2 default).bL,aH:=(l.getD i3.2.2.2 default).aH,sign:=(l.getD i3.2.2.2 default).sign,sum:=cq (bX 0 a.sum) (bX 0 ((l.getD i3.2.2.2 default).sum)) }:Step)],i3.2.2.1,i3.2.2.2+1)))))
 (.fin (.inl (.inr (i3.1,i3.2.1,i3.2.2.1)))))
 (fun (b2:(List Claim) × (List Step) × (List Claim))=>⟨[(8,ow 100003 b2.1),(9,ow 100004 b2.2.1),(11,ow 100005 b2.2.2)],[(100003,bw 83 9 Claim.cells b2.1),(100004,bw 179 4 Step.cells b2.2.1),(100005,bw 83 9 Claim.cells b2.2.2)]⟩) fun b2 =>
 .bind true (fun b6=>Inv1 a b2.1 b2.2.2 b2.2.2.length b6)
 (.loop (default:Sum ((List Claim) × (List Step)) ((List Claim))) (fun i7=>i7.2≤b2.2.2.length∧Inv1 a b2.1 b2.2.2 i7.2 i7.1) (fun i7=>b2.2.2.length - i7.2) ((b2.1,0):(List Claim) × Nat)
 (fun (i7:(List Claim) × Nat)=>⟨[(8,ow 100011 i7.1),(94,iv ((i7.2:Nat):Int))],[(100011,bw 83 9 Claim.cells i7.1)]⟩) fun i7 =>
 .lt 92 0 i7.2 b2.2.2.length
 (.r 17 (.aj (.p (bU ((i7.2:Nat):Int) b2.2.2.length)) (.p (i7.2 < b2.2.2.length))) fun _ =>
 .r 18 ((ri 100011 100 i7.1 (b2.2.2.getD i7.2 default)).c) fun x8 =>
 .nx 19 94 i7.2 (x8,i7.2+1))
 (.fin (.inl (.inr i7.1))))
 (fun (b6:(List Claim))=>⟨[(8,ow 100010 b6)],[(100010,bw 83 9 Claim.cells b6)]⟩) fun b6 =>
 .fz 100004 <|
 .fin (b6,b2.2.1)
def ke l a kind bO:=(my l a kind bO).val
theorem Pp (l:List Claim) (a:bD) (kind:Int) (bO:Bool):(my l a kind bO).dj (fun (x:(List Claim) × (List Step))=>AE l a bO x.1):=by
  refine Sk.bz _ ?_
  unfold my
  simp only [Sk.de,Sk.aI,reduceCtorEq,ON,kk,kp,pd,ri,xE,qy,pd,ri,yU.c,kI,forall_eq,maxLen]
  intro hx
  refine ⟨⟨⟨Nat.zero_le _,by rw [hx.2]; exact H3.init l a bO,Nat.le_refl _,Nat.le_refl _⟩,fun i hi=>⟨fun hc _=>?_,fun hc=>?_⟩⟩,fun b hb=>⟨⟨⟨Nat.zero_le _,Inv1.init a _ _⟩,fun i hi=>⟨fun hc _ hM _=>?_,fun hc=>?_⟩⟩,fun b1 XM=>AE.mk' hb.1 rfl XM (Nat.le_refl _)⟩⟩
  all_goals simp only [LN] at hc
  · have hk:i.2.2.2 < l.length:=by omega
    have hi2:=hi.2.2
    refine ⟨fun hm _=>⟨⟨by omega,hi.2.1.skip hk (by rw [kI]; exact (Bool.not_eq_true' _).mp hm),by omega,by omega⟩,by omega⟩,fun hm _ _=>?_⟩
    have Bt:eE a bO (l.getD i.2.2.2 default)=true:=by rw [kI]; exact (Bool.not_eq_false' _).mp hm
    refine ⟨fun hg hM _=>⟨⟨by omega,hi.2.1.meet hk Bt (hi.2.1.2.2.group (UR (od hk) ?_ _ rfl) hM),?_,?_⟩,by omega⟩,fun _ _=>⟨⟨by omega,hi.2.1.meet hk Bt hi.2.1.2.2,?_,by omega⟩,by omega⟩⟩
    · simp only [LN] at hg
      exact hg.2
    · rw [List.length_append,List.length_singleton]; omega
    · exact Nat.le_trans hM.len (by omega)
    · rw [List.length_append,List.length_singleton]; omega
  · have e:i.2.2.2=l.length:=by omega
    rw [e] at hi
    exact hi.2
  · have hk:i.2 < b.2.2.length:=by omega
    have VF:=hb.1.2.2.1 _ (od hk)
    exact ⟨⟨by omega,hi.2.step (od hk) VF.1.1 hM⟩,by omega⟩
  · have e:i.2=b.2.2.length:=by omega
    rw [e] at hi
    exact hi.2

theorem Nf (l:List Claim) (a:bD) (kind:Int) (bO:Bool):(fun (x:(List Claim) × (List Step))=>AE l a bO x.1) (ke l a kind bO):=have h:=Sk.dk _ (Pp l a kind bO); h
theorem Sd (l:List Claim) (a:bD) (kind:Int) (bO:Bool) (hl:l.length≤1000000000):(my l a kind bO).bC (fun _=>True):=by
  refine Sk.aR _ ?_
  unfold my
  simp only [Sk.ju,Sk.aI,reduceCtorEq,ON,kk,kp,pd,ri,xE,qy,pd,ri,yU.c,kI,forall_eq,maxLen]
  refine ⟨hl,fun hx=>⟨⟨⟨Nat.zero_le _,by rw [hx.2]; exact H3.init l a bO,Nat.le_refl _,Nat.le_refl _⟩,fun i hi hmx=>⟨fun hc=>?_,fun hc=>?_⟩⟩,fun b hb=>⟨⟨Nat.zero_le _,Inv1.init a _ _⟩,fun i hi hmx=>⟨fun hc=>?_,fun hc=>?_⟩⟩⟩⟩
  all_goals simp only [LN] at hc
  · have hk:i.2.2.2 < l.length:=by omega
    have hi2:=hi.2.2
    have hol:=hi.2.1.1
    have hw:ar ((i.2.2.2:Int)+1)=((i.2.2.2+1:Nat):Int):=(aA (by omega) (by omega)).trans (by omega)
    refine ⟨⟨by omega,by omega⟩,fun _=>⟨fun hm _=>⟨hw,⟨by omega,hi.2.1.skip hk (by rw [kI]; exact (Bool.not_eq_true' _).mp hm),by omega,by omega⟩,by omega⟩,fun hm=>⟨⟨⟨by omega,by omega⟩,by omega⟩,fun _=>⟨by rw [List.length_set],⟨by simp only [List.length_singleton]; omega,by simp only [List.length_singleton]; omega⟩,fun _=>?_⟩⟩⟩⟩
    have Bt:eE a bO (l.getD i.2.2.2 default)=true:=by rw [kI]; exact (Bool.not_eq_false' _).mp hm
    refine ⟨fun hg=>⟨by omega,fun hM _=>⟨hw,⟨by omega,hi.2.1.meet hk Bt (hi.2.1.2.2.group (UR (od hk) ?_ _ rfl) hM),?_,?_⟩,by omega⟩⟩,fun _ _=>⟨hw,⟨by omega,hi.2.1.meet hk Bt hi.2.1.2.2,?_,by omega⟩,by omega⟩⟩
    · simp only [LN] at hg
      exact hg.2
    · rw [List.length_append,List.length_singleton]; omega
    · exact Nat.le_trans hM.len (by omega)
    · rw [List.length_append,List.length_singleton]; omega
  · have e:i.2.2.2=l.length:=by omega
    rw [e] at hi
    exact hi.2
  · have hk:i.2 < b.2.2.length:=by omega
    have VF:=hb.1.2.2.1 _ (od hk)
    have hln:=hi.2.1
    have hol:=hb.1.1
    exact ⟨⟨⟨by omega,by omega⟩,hk⟩,fun _=>⟨by omega,fun hM _=>⟨(aA (by omega) (by omega)).trans (by omega),⟨by omega,hi.2.step (od hk) VF.1.1 hM⟩,by omega⟩⟩⟩
  · have e:i.2=b.2.2.length:=by omega
    rw [e] at hi
    exact hi.2

theorem Pq (l:List Claim) (a:bD) (kind:Int) (bO:Bool) (hl:l.length≤1000000000):gR Tryz.prog 95 [lv Claim.cells l,av a.cells,iv kind,bv bO] [] (.fD [ow 777777 (ke l a kind bO).1,lv Step.cells ((ke l a kind bO).2)]) [(777777,bw 83 9 Claim.cells (ke l a kind bO).1)] :=
  gR.sk tok mixed (fun x=>.fD [ow 777777 x.1,lv Step.cells x.2]) (fun x=>[(777777,bw 83 9 Claim.cells x.1)]) Tryz.func95 rfl (by kernel_rfl) 3000 (my l a kind bO) (by kernel_rfl) (Sd l a kind bO hl)
def vk (κ:Nat) (l:List Claim) (a:bD) (kind:Int) (bO:Bool):j0 ((List Claim) × (List Step)):=⟨Tryz.prog,95,[lv Claim.cells l,av a.cells,iv kind,bv bO],fun x=>.fD [ow κ x.1,lv Step.cells x.2],fun x=>[(κ,bw 83 9 Claim.cells x.1)],ke l a kind bO,(l.length≤1000000000),fun h=>gR.aa1 κ rfl (Pq l a kind bO h),fun (x:(List Claim) × (List Step))=>AE l a bO x.1,Nf l a kind bO⟩
theorem UT {β Y γ:Type} (g:Y→List β) {f:List β→Y→γ ⊕ List β}:∀ (l:List Y) (s:List β),(∀ s y,y∈l→f s y=.inr (s++g y))→rA f l s=.inr (s++l.flatMap g)
  | [],s,_=>by simp [rA]
  | y :: r,s,h=>by
    simp only [rA,h s y (by simp)]
    rw [UT g r _ (fun s z hz=>h s z (by simp [hz]))]
    simp
theorem UU {α β ι δ:Type} [Inhabited α] (l:List α) (g:α→List β) (pack:List β→Nat→ι) {f:ι→δ ⊕ ι} {d:δ} (e:List β→δ)
    (hs:∀ s i,i < l.length→f (pack s i)=.inr (pack (s++g (l.getD i default)) (i+1))) (he:∀ s,f (pack s l.length)=.inl (e s)) {n:Nat} (hn:l.length < n) (s:List β):iter f d n (pack s 0)=e (s++l.flatMap g):=by
  rw [qE (d:=d) l pack (fun x s=>.inr (s++g x)) e hs he hn s,j5 (fun x s=>s++g x) e]
  congr 1
  clear hs he hn
  induction l generalizing s with
  | nil=>simp
  | cons x r ih=>rw [List.foldl_cons,ih]; simp
/-- a kV of an owner by a signature,if there is one -/
def qz (r:ah) (forum:Int) (f:ak) (day:Int) (c:fy) (eff:List cX) (links:List Int) (part:Int) (o:lP) (sign:Int):List Claim :=
  bif (aQ c o sign links eff).1 == 0||(c.view.now.af.getD sign.toNat default).dQ == o.gD then [] else
  [{ bL:=(c.view.now.af.getD sign.toNat default).dQ,aH:=o.gD,part:=part,sign:=sign,c9:=o.sign,dF:=(aQ c o sign links eff).2,sum:=(iq r forum f sign day).rest,au:=f.aU.au,state:=(aQ c o sign links eff).1 }]
def CA (r:ah) (forum:Int) (f:ak) (day:Int) (c:fy) (eff:List cX):List Claim :=
  c.view.lead.flatMap fun part=>(bK c (al c.view part)).flatMap fun o=>(bA c.view part o.sign (al c.view part)).flatMap fun sign=>qz r forum f day c eff (al c.view part) part o sign
theorem zE (r:ah) (forum:Int) (f:ak) (day:Int):cm r forum f day=bif !(aF r forum f day).2 then [] else CA r forum f day (aF r forum f day).1 (aW r forum f day):=by
  unfold cm mV
  dsimp +instances only [Sk.dK,Sk.gd,Sk.iP,Sk.fB,Sk.jt,Sk.l7,Sk.dn,Sk.aa2,il.A1,kk,kp,HL,wu,sT,sa,sc,yq,mn,bH.rD]
  cases (aF r forum f day).2 with
  | false=>rfl
  | true =>
    simp only [Bool.not_true,cond_false]
    refine Eq.trans (congrArg (fun q=>iY q fun b=>b) (UU (aF r forum f day).1.view.lead (fun part=>(bK (aF r forum f day).1 (al (aF r forum f day).1.view part)).flatMap fun o=>(bA (aF r forum f day).1.view part o.sign (al (aF r forum f day).1.view part)).flatMap fun sign=>qz r forum f day (aF r forum f day).1 (aW r forum f day) (al (aF r forum f day).1.view part) part o sign) (fun s i=>(i,s)) (fun s=>Sum.inr s) (fun s i hi=>?_) (fun s=>?_) (by simp) [])) ?_
    · dsimp only
      rw [decide_eq_true (by omega),cond_true]
      rw [UT (fun o=>(bA (aF r forum f day).1.view ((aF r forum f day).1.view.lead.getD i default) o.sign (al (aF r forum f day).1.view ((aF r forum f day).1.view.lead.getD i default))).flatMap fun sign=>qz r forum f day (aF r forum f day).1 (aW r forum f day) (al (aF r forum f day).1.view ((aF r forum f day).1.view.lead.getD i default)) ((aF r forum f day).1.view.lead.getD i default) o sign) _ s (fun s y _=>?_)]
      · rfl
      · refine Eq.trans (congrArg (fun q=>iY (iY q _) _) (UU (bA (aF r forum f day).1.view ((aF r forum f day).1.view.lead.getD i default) y.sign (al (aF r forum f day).1.view ((aF r forum f day).1.view.lead.getD i default))) (fun sign=>qz r forum f day (aF r forum f day).1 (aW r forum f day) (al (aF r forum f day).1.view ((aF r forum f day).1.view.lead.getD i default)) ((aF r forum f day).1.view.lead.getD i default) y sign) (fun s i=>(i,s)) (fun s=>Sum.inr (((bA (aF r forum f day).1.view ((aF r forum f day).1.view.lead.getD i default) y.sign (al (aF r forum f day).1.view ((aF r forum f day).1.view.lead.getD i default))).length:Int),s)) (fun s k hk=>?_) (fun s=>?_) (by simp) s)) ?_
        · dsimp only
          rw [decide_eq_true (by omega),cond_true]
          unfold qz
          cases (aQ (aF r forum f day).1 y ((bA (aF r forum f day).1.view ((aF r forum f day).1.view.lead.getD i default) y.sign (al (aF r forum f day).1.view ((aF r forum f day).1.view.lead.getD i default))).getD k default) (al (aF r forum f day).1.view ((aF r forum f day).1.view.lead.getD i default)) (aW r forum f day)).1 == 0||((aF r forum f day).1.view.now.af.getD ((bA (aF r forum f day).1.view ((aF r forum f day).1.view.lead.getD i default) y.sign (al (aF r forum f day).1.view ((aF r forum f day).1.view.lead.getD i default))).getD k default).toNat default).dQ == y.gD with
          | true=>simp only [cond_true,List.append_nil]
          | false=>simp only [cond_false]
        · dsimp only
          rw [decide_eq_false (by omega),cond_false]
        · rfl
    · dsimp only
      rw [decide_eq_false (by omega),cond_false]
    · rw [List.nil_append]
      rfl
theorem xG {α β:Type} {g:α→List β} {m:Nat}:∀ (l:List α),(∀ x,x∈l→(g x).length≤m)→(l.flatMap g).length≤l.length * m
  | [],_=>by simp
  | x :: r,h=>by
    have h1:=xG r (fun y hy=>h y (by simp [hy]))
    have h2:=h x (by simp)
    rw [List.flatMap_cons,List.length_append,List.length_cons,Nat.succ_mul]
    omega
theorem Ng {r:ah} {forum:Int} {f:ak} {day:Int} (hF:cb r f):(cm r forum f day).length≤67240:=by
  rw [zE]
  cases ht:(aF r forum f day).2 with
  | false=>simp
  | true =>
    rw [Bool.not_true,cond_false]
    have he:=(Gc r forum f day ht).1
    have hv:(aF r forum f day).1.view=aD f day:=by rw [he]
    have ho:=D3 f day
    have h40:=hF.2.1.1
    have hk:∀ part,(al (aD f day) part).length≤40:=fun part=>by
      have h:=(pC (aD f day) part).1
      rw [ho.1] at h
      omega
    unfold CA
    rw [hv]
    refine Nat.le_trans (xG (m:=1640) _ fun part _=>Nat.le_trans (xG (m:=40) _ fun o _=>Nat.le_trans (xG (m:=1) _ fun s _=>?_) ?_) ?_) ?_
    · unfold qz
      cases (aQ (aF r forum f day).1 o s (al (aD f day) part) (aW r forum f day)).1 == 0||((aF r forum f day).1.view.now.af.getD s.toNat default).dQ == o.gD <;> simp
    · have h:=(tX (aD f day) part o.sign (al (aD f day) part)).1
      have h2:=oO f day
      rw [ho.2.1] at h
      omega
    · have h:=EI (aF r forum f day).1 (al (aD f day) part)
      have h2:=hk part
      omega
    · have h:=ho.2.2.2.2
      omega
/-- how many links lie from one signature to XL -/
def Bi (links:List Int) (lo hi:Int):Nat:=(links.filter fun l=>decide (l≤hi)&&decide (l≥lo)).length
def H4 (links:List Int) (hi:Int):Nat:=(links.filter fun l=>decide (l≤hi)).length
theorem Zz (links:List Int) (lo hi:Int) {i:Nat} (h:i < links.length):Bi (links.take (i+1)) lo hi=Bi (links.take i) lo hi+(bif decide (links.getD i default≤hi)&&decide (links.getD i default≥lo) then 1 else 0):=by
  unfold Bi
  rw [List.take_succ_eq_append_getElem h,List.filter_append,List.length_append,show links.getD i default=links[i] by simp [List.getD,h]]
  congr 1
  cases hc:decide (links[i]≤hi)&&decide (links[i]≥lo) with
  | true=>rw [List.filter_cons_of_pos (by simpa using hc)]; rfl
  | false=>rw [List.filter_cons_of_neg (by simpa using hc)]; rfl
theorem ZA (links:List Int) (hi:Int) {i:Nat} (h:i < links.length):H4 (links.take (i+1)) hi=H4 (links.take i) hi+(bif decide (links.getD i default≤hi) then 1 else 0):=by
  unfold H4
  rw [List.take_succ_eq_append_getElem h,List.filter_append,List.length_append,show links.getD i default=links[i] by simp [List.getD,h]]
  congr 1
  cases hc:decide (links[i]≤hi) with
  | true=>rw [List.filter_cons_of_pos (by simpa using hc)]; rfl
  | false=>rw [List.filter_cons_of_neg (by simpa using hc)]; rfl
theorem acO (links:List Int) (lo hi:Int):Bi links lo hi≤links.length:=List.length_filter_le ..
theorem acP (links:List Int) (hi:Int):H4 links hi≤links.length:=List.length_filter_le ..
def oe (c:fy):Bool:=(c.due != (-1))&&decide (c.view.day≥c.due)
theorem Gv (c:fy) (o:lP) (sign:Int) (links:List Int) (eff:List cX) (hl:links.length≤1000000):aQ c o sign links eff =
    bif (c.view.now.af.getD (aC c.view sign).toNat default).kind == 1 then (bif !(oe c) then (0,0) else (fO o.state (eff.getD sign.toNat default).binds,0)) else
    bif ((!(oe c))&&(!(cR c.view.now.aw)))||(!((eff.getD (aC c.view sign).toNat default).fM)) then (0,0) else
    (fO (fO o.state (eff.getD sign.toNat default).binds) (jD c.r c.forum c.view.all (aC c.view sign) c.view.day).all,
      bif !(bZ links (aC c.view sign)) then (1+(H4 links o.sign:Int)) else (Bi links (aC c.view sign) o.sign:Int)):=by
  unfold aQ jE
  dsimp +instances only [Sk.dK,Sk.gd,Sk.iP,Sk.fB,Sk.jt,Sk.l7,Sk.dn,il.A1,kk,kp,bH.rD,bH.Zg,bH.IE,uD,sU,j1,aM,sW]
  have agt:∀ d:(Int × Int) ⊕ (Int × Int),iter (fun i5:Int × Int × Nat=>bif decide (((i5.2.2:Nat):Int) < ((links.length:Nat):Int)) then
      (iY (bif decide ((links.getD i5.2.2 default)≤o.sign) then (Sum.inr (ar (i5.2.1+1)):(((Int × Int) ⊕ (Int × Int)) ⊕ (Int × Int × Nat)) ⊕ Int) else Sum.inr i5.2.1) fun b6=>bif (decide ((links.getD i5.2.2 default)≤o.sign))&&(decide ((links.getD i5.2.2 default)≥aC c.view sign)) then Sum.inr (ar (i5.1+1),b6,i5.2.2+1) else Sum.inr (i5.1,b6,i5.2.2+1))
      else Sum.inl (Sum.inr (i5.1,i5.2.1))) d (links.length - 0+1) (0,1,0)=Sum.inr ((Bi links (aC c.view sign) o.sign:Int),1+(H4 links o.sign:Int)):=by
    intro d
    refine (De links.length (fun n=>((Bi (links.take n) (aC c.view sign) o.sign:Int),1+(H4 (links.take n) o.sign:Int))) (fun s i=>(s.1,s.2,i)) (fun s=>Sum.inr s) (fun i hi=>?_) ?_ (m:=links.length - 0+1) (by omega)).trans ?_
    · dsimp only
      rw [decide_eq_true (by omega),cond_true,Zz links _ _ hi,ZA links _ hi]
      have h1:=acO (links.take i) (aC c.view sign) o.sign
      have h2:=acP (links.take i) o.sign
      have h3:(links.take i).length≤links.length:=by rw [List.length_take]; exact Nat.min_le_right _ _
      rw [aA (n:=(Bi (links.take i) (aC c.view sign) o.sign:Int)+1) (by omega) (by omega),aA (n:=1+(H4 (links.take i) o.sign:Int)+1) (by omega) (by omega)]
      cases decide (links.getD i default≤o.sign) with
      | false=>simp [iY]
      | true =>
        cases decide (links.getD i default≥aC c.view sign) with
        | false=>simp [iY]; omega
        | true=>simp [iY]; omega
    · dsimp only
      rw [decide_eq_false (by omega),cond_false]
    · rw [List.take_length]
  cases (c.view.now.af.getD (aC c.view sign).toNat default).kind == 1 with
  | true=>rfl
  | false =>
    simp only [cond_false]
    show (bif ((!(oe c))&&(!(cR c.view.now.aw)))||(!((eff.getD (aC c.view sign).toNat default).fM)) then (0,0) else _)=_
    cases ((!(oe c))&&(!(cR c.view.now.aw)))||(!((eff.getD (aC c.view sign).toNat default).fM)) with
    | true=>rfl
    | false =>
      simp only [cond_false]
      refine (congrArg (fun q=>iY q _) (agt _)).trans ?_
      show iY (bif !(bZ links (aC c.view sign)) then Sum.inr (1+(H4 links o.sign:Int)) else Sum.inr (Bi links (aC c.view sign) o.sign:Int)) _=_
      cases bZ links (aC c.view sign) <;> rfl
theorem Nh (a b:Int):fO a b=0∨fO a b=1∨fO a b=2:=by
  have e:fO a b=bif (a == 0)||(b == 0) then 0 else bif (a == 2)||(b == 2) then 2 else 1:=by kernel_rfl
  rw [e]
  cases (a == 0)||(b == 0) <;> cases (a == 2)||(b == 2) <;> simp
theorem ZC (c:fy) (o:lP) (sign:Int) (links:List Int) (eff:List cX) (hl:links.length≤1000000):(aQ c o sign links eff).1=0∨(aQ c o sign links eff).1=1∨(aQ c o sign links eff).1=2:=by
  rw [Gv c o sign links eff hl]
  cases (c.view.now.af.getD (aC c.view sign).toNat default).kind == 1 with
  | true =>
    cases oe c with
    | false=>exact .inl rfl
    | true=>exact Nh _ _
  | false =>
    rw [cond_false]
    cases ((!(oe c))&&(!(cR c.view.now.aw)))||(!((eff.getD (aC c.view sign).toNat default).fM)) with
    | true=>exact .inl rfl
    | false=>exact Nh _ _
theorem EO {r:ah} {forum:Int} {f:ak} {day:Int} (h:(aF r forum f day).2=true):(aF r forum f day).1=⟨aD f day,r,forum,bJ r forum f day⟩:=(Gc r forum f day h).1
theorem ua (f:ak) (day:Int):(aD f day).all=f:=by rw [Dg]
theorem jH (f:ak) (day:Int):(aD f day).now=ai f day:=by rw [Dg]
theorem Ni (f:ak) (day:Int):(aD f day).day=day:=by rw [Dg]
/-- where a kV comes from -/
structure aeK (r:ah) (forum:Int) (f:ak) (day:Int) (c:Claim) (part:Int) (o:lP) (sign:Int):Prop where
  lead:part∈(aD f day).lead
  own:o∈bK (aF r forum f day).1 (al (aD f day) part)
  li:sign∈bA (aD f day) part o.sign (al (aD f day) part)
  st:(aQ (aF r forum f day).1 o sign (al (aD f day) part) (aW r forum f day)).1≠0
  ne:((ai f day).af.getD sign.toNat default).dQ≠o.gD
  eq:c = { bL:=((ai f day).af.getD sign.toNat default).dQ,aH:=o.gD,part:=part,sign:=sign,c9:=o.sign,dF:=(aQ (aF r forum f day).1 o sign (al (aD f day) part) (aW r forum f day)).2,sum:=(iq r forum f sign day).rest,au:=f.aU.au,state:=(aQ (aF r forum f day).1 o sign (al (aD f day) part) (aW r forum f day)).1 }
theorem xH {r:ah} {forum:Int} {f:ak} {day:Int} {c:Claim} (h:c∈cm r forum f day):((aF r forum f day).1=⟨aD f day,r,forum,bJ r forum f day⟩)∧∃ part o sign,aeK r forum f day c part o sign:=by
  rw [zE] at h
  cases ht:(aF r forum f day).2 with
  | false=>rw [ht] at h; cases h
  | true =>
    rw [ht,Bool.not_true,cond_false] at h
    have he:=EO ht
    refine ⟨he,?_⟩
    unfold CA at h
    have hv:(aF r forum f day).1.view=aD f day:=by rw [he]
    rw [hv] at h
    obtain ⟨part,hp,h⟩:=List.mem_flatMap.1 h
    obtain ⟨o,ho,h⟩:=List.mem_flatMap.1 h
    obtain ⟨sign,hs,h⟩:=List.mem_flatMap.1 h
    unfold qz at h
    rw [hv,jH] at h
    cases hc:(aQ (aF r forum f day).1 o sign (al (aD f day) part) (aW r forum f day)).1 == 0||((ai f day).af.getD sign.toNat default).dQ == o.gD with
    | true=>rw [hc] at h; cases h
    | false =>
      rw [hc,cond_false,List.mem_singleton] at h
      simp only [Bool.or_eq_false_iff,beq_eq_false_iff_ne,ne_eq] at hc
      exact ⟨part,o,sign,hp,ho,hs,hc.1,hc.2,h⟩
theorem H5 {f:ak} {day part:Int}:(al (aD f day) part).length≤f.af.length:=by
  have:=(pC (aD f day) part).1
  rwa [ua] at this
theorem CB {r:ah} {forum:Int} {f:ak} {day:Int} {c:Claim} (hF:cb r f) (hR:r.dg) (h:c∈cm r forum f day) :
    (0≤c.sign∧c.sign < f.af.length)∧(-1≤c.c9∧c.c9 < f.af.length)∧c.bL=(f.af.getD c.sign.toNat default).dQ∧c.aH=(if 0≤c.c9 then (f.af.getD c.c9.toNat default).cM else f.aU.gj) ∧
      c.bL≠c.aH∧(c.state=1∨c.state=2)∧ma c.sum∧c.au=f.aU.au:=by
  obtain ⟨he,part,o,sign,k⟩:=xH h
  have hlen:=oO f day
  have hl:=EJ k.li
  have hm:=tY hl.2
  rw [jH] at hm
  have hll:(al (aD f day) part).length≤1000000:=by have:=H5 (f:=f) (day:=day) (part:=part); have:=hF.2.1.1; omega
  have hs:=ZC (aF r forum f day).1 o sign (al (aD f day) part) (aW r forum f day) hll
  have lX:=k.st
  have ho:=(MV k.own).1
  have hvn:(aF r forum f day).1.view.now=ai f day:=by rw [he]; exact jH f day
  rw [hvn,Uu] at ho
  have hby:(o.sign = -1∧o.gD=f.aU.gj)∨(0≤o.sign∧o.sign < f.af.length∧o.gD=(f.af.getD o.sign.toNat default).cM):=by
    rcases ho with ho | ⟨h1,h2⟩
    · exact .inl ho
    · have hk:=HW h1
      rw [ua,Ni] at hk
      have VF:=hF.adD hk.1 hk.2.1 hk.2.2.2.2.1
      rw [zh f day _ (by omega)] at h2
      exact .inr ⟨hk.1,hk.2.1,h2⟩
  have GS:iq r forum f sign day=iq r forum f sign day:=rfl
  have aie:=zC r forum f sign day ⟨hF,hR⟩
  obtain rfl:=k.eq
  refine ⟨⟨hm.1,by have:=hm.2.1; show sign < _; omega⟩,?_,?_,?_,k.ne,?_,aie,rfl⟩
  · show -1≤o.sign∧o.sign < _
    rcases hby with hby | hby <;> omega
  · show ((ai f day).af.getD sign.toNat default).dQ=_
    rw [zh f day _ (by omega)]
  · show o.gD=if 0≤o.sign then (f.af.getD o.sign.toNat default).cM else f.aU.gj
    rcases hby with hby | hby
    · rw [if_neg (by omega)]; exact hby.2
    · rw [if_pos hby.1]; exact hby.2.2
  · show (aQ _ _ _ _ _).1=1∨_
    rcases hs with hs | hs | hs
    · exact absurd hs lX
    · exact .inl hs
    · exact .inr hs
theorem UW (r:ah) (forum:Int) (f:ak) (day:Int):(cm r forum f day).Pairwise (fun a b=>¬ (a.part=b.part∧a.sign=b.sign∧a.c9=b.c9)):=by
  rw [zE]
  cases ht:(aF r forum f day).2 with
  | false=>exact List.Pairwise.nil
  | true =>
    rw [Bool.not_true,cond_false]
    have he:=EO ht
    have hv:(aF r forum f day).1.view=aD f day:=by rw [he]
    have key:∀ part o sign c,c∈qz r forum f day (aF r forum f day).1 (aW r forum f day) (al (aD f day) part) part o sign→c.part=part∧c.c9=o.sign∧c.sign=sign:=fun part o sign c h=>by
      unfold qz at h
      cases hc:(aQ (aF r forum f day).1 o sign (al (aD f day) part) (aW r forum f day)).1 == 0||((aF r forum f day).1.view.now.af.getD sign.toNat default).dQ == o.gD with
      | true=>rw [hc] at h; cases h
      | false=>rw [hc,cond_false,List.mem_singleton] at h; subst h; exact ⟨rfl,rfl,rfl⟩
    have acQ:∀ part o c,c∈((bA (aD f day) part o.sign (al (aD f day) part)).flatMap fun sign=>qz r forum f day (aF r forum f day).1 (aW r forum f day) (al (aD f day) part) part o sign)→c.part=part∧c.c9=o.sign:=fun part o c h=>by
      obtain ⟨s,_,h⟩:=List.mem_flatMap.1 h
      exact ⟨(key _ _ _ _ h).1,(key _ _ _ _ h).2.1⟩
    unfold CA
    rw [hv,List.pairwise_flatMap]
    refine ⟨fun part _=>?_,(UK f day).imp (fun {a b} hab x hx y hy h=>?_)⟩
    · rw [List.pairwise_flatMap]
      refine ⟨fun o _=>?_,(R2 (fun y hy=>(HW hy).1) (R1 _ _)).imp (fun {a b} hab x hx y hy h=>?_)⟩
      · rw [List.pairwise_flatMap]
        refine ⟨fun s _=>?_,(Pd _ _ _ _).imp (fun {a b} hab x hx y hy h=>?_)⟩
        · unfold qz
          cases (aQ (aF r forum f day).1 o s (al (aD f day) part) (aW r forum f day)).1 == 0||((aF r forum f day).1.view.now.af.getD s.toNat default).dQ == o.gD <;> simp
        · have h1:=(key _ _ _ _ hx).2.2
          have h2:=(key _ _ _ _ hy).2.2
          omega
      · have h1:=(acQ _ _ _ hx).2
        have h2:=(acQ _ _ _ hy).2
        omega
    · obtain ⟨o,_,hx⟩:=List.mem_flatMap.1 hx
      obtain ⟨o',_,hy⟩:=List.mem_flatMap.1 hy
      have h1:=(acQ _ _ _ hx).1
      have h2:=(acQ _ _ _ hy).1
      omega
/-- an act VS is a KJ -/
def Se (g:ak) (a:bD):Prop:=a.kind=6∧0≤a.at_∧a.at_ < (g.af.length:Int)
def Yi (g:ak) (st:Bool) (cM:Int):Prop:=st=true↔∀ q,q < g.af.length→(g.af.getD q default).dQ≠cM
/-- I8 R8 after I8 first k aw -/
inductive yu (g:ak) (l0:List Claim):Nat→List Claim→Prop
  | zero:yu g l0 0 l0
  | skip {k:Nat} {l:List Claim}:yu g l0 k l→k < g.aw.length→¬ Se g (g.aw.getD k default)→yu g l0 (k+1) l
  | A2 {k:Nat} {l out:List Claim} {st:Bool}:yu g l0 k l→k < g.aw.length→Se g (g.aw.getD k default)→Yi g st (g.aw.getD k default).cM→AE l (g.aw.getD k default) st out→yu g l0 (k+1) out
theorem abD {x y:Claim} (h:Cy x y):UQ x=UQ y:=by simp only [UQ,h.1.1,h.1.2.2.1,h.1.2.2.2.1]
theorem yu.UQ {g:ak} {l0 l:List Claim} {k:Nat} (h:yu g l0 k l):∀ x∈l,UQ x∈l0.map UQ:=by
  induction h with
  | zero=>exact fun x hx=>List.mem_map.2 ⟨x,hx,rfl⟩
  | skip _ _ _ ih=>exact ih
  | @A2 k l out st h _ _ _ ha ih =>
    intro x hx
    obtain ⟨i,hi,rfl⟩:=List.getElem_of_mem hx
    have e:out[i]=out.getD i default:=by simp [List.getD,hi]
    rw [e]
    by_cases h1:i < l.length
    · rw [abD (ha.old i h1).1]
      exact ih _ (od h1)
    · obtain ⟨-,-,-,x,hx,e1,e2,e3,-⟩:=ha.new i (by omega) hi
      have:=ih x hx
      rwa [show Go.Proofs.YtonkchddcgcopaaGreatDoor.UQ (out.getD i default)=Go.Proofs.YtonkchddcgcopaaGreatDoor.UQ x by simp only [Go.Proofs.YtonkchddcgcopaaGreatDoor.UQ,e1,e2,e3]]
theorem yu.count {g:ak} {l0 l:List Claim} {k:Nat} (h:yu g l0 k l):l.length≤l0.length+k * l0.length∧k≤g.aw.length:=by
  induction h with
  | zero=>simp
  | skip _ _ _ ih=>exact ⟨by rw [Nat.succ_mul]; omega,by omega⟩
  | A2 h _ _ _ ha ih =>
    have:=ha.few _ h.UQ
    rw [List.length_map] at this
    exact ⟨by rw [Nat.succ_mul]; omega,by omega⟩
theorem yu.Rs {g:ak} {l0 l:List Claim} {k:Nat} (h:yu g l0 k l) (h0:∀ x∈l0,Gs x):∀ x∈l,Gs x:=by
  induction h with
  | zero=>exact h0
  | skip _ _ _ ih=>exact ih
  | A2 _ _ _ _ ha ih=>exact ha.Rs ih
theorem Nj {g:ak} {x:Bool} {t:Int} {p:Sign→Bool} (hp:∀ s,p s=true↔s.dQ=t) (h:x=true↔∃ q,q < g.af.length∧p (g.af.getD q default)=true):Yi g (!x) t:=by
  constructor
  · intro hx q hq e
    have:=h.2 ⟨q,hq,(hp _).2 e⟩
    rw [this] at hx
    cases hx
  · intro hq
    cases hx:x with
    | false=>rfl
    | true =>
      obtain ⟨q,h1,h2⟩:=h.1 hx
      exact absurd ((hp _).1 h2) (hq q h1)
theorem Yj {g:ak} {a:bD} (h:((a.kind != 6)||decide (a.at_ < 0)||decide (a.at_≥((g.af.length:Nat):Int)))=true):¬ Se g a:=by
  rintro ⟨h1,h2,h3⟩
  simp only [Bool.or_eq_true,bne_iff_ne,decide_eq_true_eq] at h
  rcases h with (h | h) | h
  · exact h h1
  · omega
  · omega
theorem WX {g:ak} {a:bD} (h:((a.kind != 6)||decide (a.at_ < 0)||decide (a.at_≥((g.af.length:Nat):Int)))=false):Se g a:=by
  simp only [Bool.or_eq_false_iff,bne_eq_false_iff_eq,decide_eq_false_iff_not] at h
  exact ⟨h.1.1,by omega,by omega⟩
def qL (r:ah) (forum:Int) (f:ak) (day:Int):Sk ((List Claim) × Unit) :=
 .r 1 ((aV f day).c) fun x1 =>
 .r 2 ((yt 29 r forum f day).c) fun x2 =>
 .r 3 (.o [.aZ (sx dI)]) fun _ =>
 .cl 30 ([]:List (Int × Int)) <|
 .bind true (fun b3=>yu x1 x2 x1.aw.length b3)
 (.loop (default:Sum ((List Claim) × Unit) ((List Claim))) (fun i4=>i4.2≤x1.aw.length∧yu x1 x2 i4.2 i4.1) (fun i4=>x1.aw.length - i4.2) ((x2,0):(List Claim) × Nat)
 (fun (i4:(List Claim) × Nat)=>⟨[(11,ow 100006 i4.1),(34,iv ((i4.2:Nat):Int))],[(100006,bw 83 9 Claim.cells i4.1)]⟩) fun i4 =>
 .lt 32 0 i4.2 x1.aw.length
 (.bind true (fun b5=>yu x1 x2 (i4.2+1) b5)
 (.r 6 (.p (bU ((i4.2:Nat):Int) x1.aw.length)) fun _ =>
 .br (((((x1.aw.getD i4.2 default).kind) != 6)||(decide (((x1.aw.getD i4.2 default).at_) < 0)))||(decide (((x1.aw.getD i4.2 default).at_)≥((x1.af.length:Nat):Int))))
 (.fin (.inr i4.1))
 (.r 8 ((ig x1.af (x1.aw.getD i4.2 default)).c) fun x6 =>
 .fz 100006 <|
 .r 9 (.aj (.p (bU ((x1.aw.getD i4.2 default).at_) x1.af.length)) ((vk 70 i4.1 (x1.aw.getD i4.2 default) ((x1.af.getD (((x1.aw.getD i4.2 default).at_).toNat) default).kind) (!x6)).c)) fun x7 =>
 .r 10 (.o [.aZ (sx dB)]) fun _ =>
 .bt
 (.loop (default:Sum (Sum (Sum (Sum ((List Claim) × Unit) ((List Claim))) ((List Claim) × Nat)) ((List Claim))) (Int × (List (Int × Bool)))) (fun i9=>i9.1≤x7.2.length) (fun i9=>x7.2.length - i9.1) ((0,([]:List (Int × Bool))):Nat × (List (Int × Bool)))
 (fun (i9:Nat × (List (Int × Bool)))=>⟨[(76,iv ((i9.1:Nat):Int))],[(73,SN dB i9.2)]⟩) fun i9 =>
 .lt 17 0 i9.1 x7.2.length
 (.r 13 (.p (bU ((i9.1:Nat):Int) x7.2.length)) fun _ =>
 .r 14 (.aj (.t (pv dB i9.2)) (.o [.aZ (Ws dB i9.2 ((x7.2.getD i9.1 default).aH) true)])) fun _ =>
 .r 15 .z fun _ =>
 .wi 76 (ar (((i9.1:Nat):Int)+1)) ((i9.1+1:Nat):Int) <|
 .fin (.inr (i9.1+1,nC i9.2 ((x7.2.getD i9.1 default).aH) true)))
 (.fin (.inl (.inr (((i9.1:Nat):Int),i9.2)))))
 (fun (b8:Int × (List (Int × Bool)))=>⟨[(76,iv b8.1)],[(73,SN dB b8.2)]⟩) fun b8 =>
 .bt
 (.mr b8.2.length (fun _=>True) (():Unit)
 (fun g11 s13=>⟨[],[(85,.it 73 b8.2.length s13)]⟩)
 (fun g15=>⟨[],[]⟩)
 (fun g11 i12 =>
 .KF <|
 .r 18 (.p (i12 < b8.2.length)) fun _ =>
 .op 30 fun m14 =>
 .r 19 (.aj (.aj (.t (pv dI m14)) (.o [.cast 94 (getM dI m14 ((b8.2.getD i12 default).1) (0:Int))])) (.aj (.t (pv dI m14)) (.o [.aZ (Ws dI m14 ((b8.2.getD i12 default).1) (cq 1099511627776 (ar ((cT m14 ((b8.2.getD i12 default).1) (0:Int))+((x1.aw.getD i4.2 default).sum)))))]))) fun _ =>
 .cl 30 (nC m14 ((b8.2.getD i12 default).1) (cq 1099511627776 (ar ((cT m14 ((b8.2.getD i12 default).1) (0:Int))+((x1.aw.getD i4.2 default).sum))))) <|
 .fin ()) fun g15 =>
 .Dz <|
 .fin (.inr ()))
 (fun (_:Unit)=>⟨[(85,.any)],[]⟩) fun _ =>
 .fin (.inr x7.1)))
 (fun (b5:(List Claim))=>⟨[(11,ow 100008 b5)],[(100008,bw 83 9 Claim.cells b5)]⟩) fun b5 =>
 .nx 21 34 i4.2 (b5,i4.2+1))
 (.fin (.inl (.inr i4.1))))
 (fun (b3:(List Claim))=>⟨[(11,ow 100004 b3)],[(100004,bw 83 9 Claim.cells b3)]⟩) fun b3 =>
 .fin (b3,())
def Dm r forum f day:=(qL r forum f day).val
theorem UX (r:ah) (forum:Int) (f:ak) (day:Int):(qL r forum f day).dj (fun (x:(List Claim) × Unit)=>yu (ai f day) (cm r forum f day) (ai f day).aw.length x.1):=by
  refine Sk.bz _ ?_
  unfold qL
  simp only [Sk.de,Sk.aI,reduceCtorEq,ON,kk,kp,yt,vk,aV,ig,maxLen]
  intro x hx _ x1 KD _
  refine ⟨⟨⟨Nat.zero_le _,.zero⟩,fun i hi=>⟨fun hc=>⟨fun _=>⟨fun hs=>?_,fun hs x4 _ h4 x5 _ h5 _=>⟨⟨Nat.zero_le _,fun j hj Jd _ _ _=>?_⟩,fun b b1 _=>?_⟩⟩,fun b _ hb _=>?_⟩,fun hc=>?_⟩⟩,fun b hb=>?_⟩
  all_goals try simp only [LN] at hc
  · exact hi.2.skip (by omega) (Yj hs)
  · simp only [LN] at Jd
    omega
  · exact hi.2.A2 (by omega) (WX hs) (Nj (p:=fun s=>iG s (x.aw.getD i.2 default)) (fun s=>by show iG s _=true↔_; rw [tC,beq_iff_eq]) h4) h5
  · exact ⟨⟨by omega,hb⟩,by omega⟩
  · have e:i.2=x.aw.length:=by omega
    rw [← e]
    exact hi.2
  · subst hx KD
    exact hb

theorem Sf (r:ah) (forum:Int) (f:ak) (day:Int):(fun (x:(List Claim) × Unit)=>yu (ai f day) (cm r forum f day) (ai f day).aw.length x.1) (Dm r forum f day):=have h:=Sk.dk _ (UX r forum f day); h
theorem WY (r:ah) (forum:Int) (f:ak) (day:Int) (hF:cb r f) (bj:f.Small) (bR:r.cj) (aX:r.Small) (gY:r.im) (gw:r.dg):(qL r forum f day).bC (fun _=>True):=by
  refine Sk.aR _ ?_
  unfold qL
  simp only [Sk.ju,Sk.aI,reduceCtorEq,ON,kk,kp,Sk.dj,yt,vk,aV,ig,maxLen]
  refine ⟨bj,fun x hx hl=>⟨⟨hF,bj,bR,aX,gY,gw⟩,fun x1 KD _=>⟨⟨Nat.zero_le _,.zero⟩,fun i hi hmx=>⟨fun hc=>⟨⟨?_,fun _=>⟨fun hs=>?_,fun hs x4 _ h4=>⟨⟨?_,?_⟩,fun x5 _ h5 _=>⟨⟨Nat.zero_le _,fun j hj hm2 Jd=>?_⟩,fun b=>⟨fun _ _ h=>h,fun b1 _=>?_⟩⟩⟩⟩⟩,fun b _ hb _=>?_⟩,fun hc=>?_⟩⟩⟩⟩
  all_goals try simp only [LN] at hc
  · exact ⟨by omega,by omega⟩
  · exact hi.2.skip (by omega) (Yj hs)
  · exact (WX hs).2
  · have h1:=hi.2.count.1
    have h2:x1.length≤67240:=by rw [KD]; exact Ng hF
    have h3:=hF.2.1.2.2.2.1
    have h4:=Nat.mul_le_mul (show i.2≤100 by omega) h2
    omega
  · simp only [LN] at Jd
    exact ⟨⟨by omega,by omega⟩,fun _ _ _=>⟨(aA (by omega) (by omega)).trans (by omega),by omega,by omega⟩⟩
  · exact hi.2.A2 (by omega) (WX hs) (Nj (p:=fun s=>iG s (x.aw.getD i.2 default)) (fun s=>by show iG s _=true↔_; rw [tC,beq_iff_eq]) h4) h5
  · exact ⟨(aA (by omega) (by omega)).trans (by omega),⟨by omega,hb⟩,by omega⟩
  · have e:i.2=x.aw.length:=by omega
    rw [← e]
    exact hi.2

theorem UY (r:ah) (forum:Int) (f:ak) (day:Int) (hF:cb r f) (bj:f.Small) (bR:r.cj) (aX:r.Small) (gY:r.im) (gw:r.dg):gR Tryz.prog 64 [av r.cells,iv forum,av f.cells,iv day] [] (.fD [ow 777777 (Dm r forum f day).1,.any]) [(777777,bw 83 9 Claim.cells (Dm r forum f day).1)] :=
  gR.sk tok mixed (fun x=>.fD [ow 777777 x.1,.any]) (fun x=>[(777777,bw 83 9 Claim.cells x.1)]) Tryz.func64 rfl (by kernel_rfl) 3000 (qL r forum f day) (by kernel_rfl) (WY r forum f day hF bj bR aX gY gw)
def EP (κ:Nat) (r:ah) (forum:Int) (f:ak) (day:Int):j0 ((List Claim) × Unit):=⟨Tryz.prog,64,[av r.cells,iv forum,av f.cells,iv day],fun x=>.fD [ow κ x.1,.any],fun x=>[(κ,bw 83 9 Claim.cells x.1)],Dm r forum f day,(cb r f)∧(f.Small)∧(r.cj)∧(r.Small)∧(r.im)∧(r.dg),fun h=>gR.aa1 κ rfl (UY r forum f day h.1 h.2.1 h.2.2.1 h.2.2.2.1 h.2.2.2.2.1 h.2.2.2.2.2),fun (x:(List Claim) × Unit)=>yu (ai f day) (cm r forum f day) (ai f day).aw.length x.1,Sf r forum f day⟩
def mW (r:ah) (forum:Int) (f:ak) (day:Int):Sk ((List Claim)) :=
 .r 1 ((EP 16 r forum f day).c) fun x1 =>
 .fin x1.1
def eQ r forum f day:=(mW r forum f day).val
theorem Nk (r:ah) (forum:Int) (f:ak) (day:Int):(mW r forum f day).dj (fun (x:(List Claim))=>yu (ai f day) (cm r forum f day) (ai f day).aw.length x):=by
  unfold mW
  try simp only [EP]
  exact Fz

theorem A9 (r:ah) (forum:Int) (f:ak) (day:Int):(fun (x:(List Claim))=>yu (ai f day) (cm r forum f day) (ai f day).aw.length x) (eQ r forum f day):=have h:=Sk.dk _ (Nk r forum f day); h
theorem Pr (r:ah) (forum:Int) (f:ak) (day:Int) (hF:cb r f) (bj:f.Small) (bR:r.cj) (aX:r.Small) (gY:r.im) (gw:r.dg):(mW r forum f day).bC (fun _=>True):=by
  unfold mW
  try simp only [EP]
  exact mA

theorem Nl (r:ah) (forum:Int) (f:ak) (day:Int) (hF:cb r f) (bj:f.Small) (bR:r.cj) (aX:r.Small) (gY:r.im) (gw:r.dg):gR Tryz.prog 38 [av r.cells,iv forum,av f.cells,iv day] [] (ow 777777 (eQ r forum f day)) [(777777,bw 83 9 Claim.cells (eQ r forum f day))] :=
  gR.sk tok mixed (fun x=>ow 777777 x) (fun x=>[(777777,bw 83 9 Claim.cells x)]) Tryz.func38 rfl (by kernel_rfl) 3000 (mW r forum f day) (by kernel_rfl) (Pr r forum f day hF bj bR aX gY gw)
def yw (κ:Nat) (r:ah) (forum:Int) (f:ak) (day:Int):j0 ((List Claim)):=⟨Tryz.prog,38,[av r.cells,iv forum,av f.cells,iv day],fun x=>ow κ x,fun x=>[(κ,bw 83 9 Claim.cells x)],eQ r forum f day,(cb r f)∧(f.Small)∧(r.cj)∧(r.Small)∧(r.im)∧(r.dg),fun h=>gR.X0 κ (Nl r forum f day h.1 h.2.1 h.2.2.1 h.2.2.2.1 h.2.2.2.2.1 h.2.2.2.2.2),fun (x:(List Claim))=>yu (ai f day) (cm r forum f day) (ai f day).aw.length x,A9 r forum f day⟩
def iW (r:ah) (forum:Int) (f:ak) (day:Int):Sk (Int) :=
 .r 1 (.dep ((lQ r forum f 0 day).c) fun x1=>(cu x1).c) fun p3 =>
 .fin p3.2
def iO r forum f day:=(iW r forum f day).val
theorem AF (r:ah) (forum:Int) (f:ak) (day:Int) (bj:f.Small) (bR:r.cj) (aX:r.Small):(iW r forum f day).bC (fun _=>True):=by
  simp only [ak.Small,ah.Small,ah.cj] at bj
  simp only [ak.Small,ah.Small,ah.cj] at bR
  simp only [ak.Small,ah.Small,ah.cj] at aX
  unfold iW
  try simp only [lQ,cu,ak.Small,ah.Small,ah.cj]
  exact mA

def m7 r forum f day:=kk tok mixed Tryz.func127 [av r.cells,iv forum,av f.cells,iv day] (fun x=>iv x) true (iW r forum f day) (iO r forum f day) (u3 (AF r forum f day))
def og (r:ah) (forum:Int) (f:ak) (c_:Claim) (day:Int):Sk (Int × Int) :=
 .br (c_.dF == 0)
 (.r 2 ((bW r forum f day).c) fun x1 =>
 .fin (13,x1))
 (.bt
 (.loop (default:Sum (Int × Int) (Unit)) (fun i3=>i3≤f.aw.length) (fun i3=>f.aw.length - i3) (0:Nat)
 (fun (i3:Nat)=>⟨[(25,iv ((i3:Nat):Int))],[]⟩) fun i3 =>
 .lt 23 0 i3 f.aw.length
 (.r 5 (.p (bU ((i3:Nat):Int) f.aw.length)) fun _ =>
 .br (((((f.aw.getD i3 default).kind) == 6)&&(((f.aw.getD i3 default).dQ) == c_.aH))&&(((f.aw.getD i3 default).at_) == c_.c9))
 (.fin (.inl (.inl (15,(f.aw.getD i3 default).day))))
 (.nx 8 25 i3 (i3+1)))
 (.fin (.inl (.inr ()))))
 (fun (_:Unit)=>⟨[],[]⟩) fun _ =>
 .r 9 ((m7 r forum f day).c) fun x4 =>
 .fin (14,x4))
def eS r forum f c_ day:=(og r forum f c_ day).val
theorem Nm (r:ah) (forum:Int) (f:ak) (c_:Claim) (day:Int) (bj:f.Small) (bR:r.cj) (aX:r.Small):(og r forum f c_ day).bC (fun _=>True):=by
  simp only [ak.Small,ah.Small,ah.cj] at bj
  simp only [ak.Small,ah.Small,ah.cj] at bR
  simp only [ak.Small,ah.Small,ah.cj] at aX
  unfold og
  try simp only [bW,m7,ak.Small,ah.Small,ah.cj]
  exact mA

def yx r forum f c_ day:=kk tok mixed Tryz.func96 [av r.cells,iv forum,av f.cells,av c_.cells,iv day] (fun x=>.fD [iv x.1,iv x.2]) true (og r forum f c_ day) (eS r forum f c_ day) (u3 (Nm r forum f c_ day))
def lg (a:bD) (c_:Claim):Sk (Bool) :=
 .br (a.at_ != c_.sign)
 (.fin false)
 (.fin ((a.kind == 9)||((a.kind == 8)&&((c_.aH == (-1))||(a.dQ == c_.aH)))))
def jq a c_:=(lg a c_).val
theorem DT (a:bD) (c_:Claim):(lg a c_).bC (fun _=>True):=by
  unfold lg
  exact qT

def qM a c_:=kk tok mixed Tryz.func97 [av a.cells,av c_.cells] (fun x=>bv x) true (lg a c_) (jq a c_) (u0 (DT a c_))
def sj (r:ah) (forum:Int) (f:ak) (c_:Claim) (day:Int):Sk (Int × Int) :=
 .r 1 ((aV f day).c) fun x1 =>
 .br ((decide (c_.sign < 0))||(decide (c_.sign≥((x1.af.length:Nat):Int))))
 (.fin (0,1))
 (.r 4 ((yx r forum x1 c_ day).c) fun x2 =>
 .r 5 ((bW r forum x1 day).c) fun x3 =>
 .r 6 ((eX r forum x2.1 ({ file:=x1,sign:=c_.sign,jy:=c_.sign,ch:=(-1),due:=x3,day:=day }:fF)).c) fun x4 =>
 .br ((x4.err != 0)||(x2.2 == (-1)))
 (.fin (0,4))
 (.br (!x4.cell.known)
 (.fin (0,17))
 (.bt
 (.loop (default:Sum (Int × Int) (Int)) (fun i6=>i6.2≤x1.aw.length) (fun i6=>x1.aw.length - i6.2) ((ar (x2.2+x4.cell.n),0):Int × Nat)
 (fun (i6:Int × Nat)=>⟨[(16,iv i6.1),(80,iv (i6.2:Int))],[]⟩) fun i6 =>
 .lt 78 0 i6.2 x1.aw.length
 (.r 14 (.p (bU (i6.2:Int) x1.aw.length)) fun _ =>
 .r 15 ((qM (x1.aw.getD i6.2 default) c_).c) fun x7 =>
 .br ((x7&&(decide (((x1.aw.getD i6.2 default).day)≥x2.2)))&&(decide (((x1.aw.getD i6.2 default).day)≤i6.1)))
 (.r 17 .z fun _ =>
 .wi 80 (ar ((i6.2:Int)+1)) ((i6.2+1:Nat):Int) <|
 .fin (.inr (ar (((x1.aw.getD i6.2 default).day)+x4.cell.n),i6.2+1)))
 (.nx 17 80 i6.2 (i6.1,i6.2+1)))
 (.fin (.inl (.inr i6.1))))
 (fun (b5:Int)=>⟨[(16,iv b5)],[]⟩) fun b5 =>
 .fin (b5,0))))
def Dn r forum f c_ day:=(sj r forum f c_ day).val
theorem Sg (r:ah) (forum:Int) (f:ak) (c_:Claim) (day:Int) (bj:f.Small) (bR:r.cj) (aX:r.Small):(sj r forum f c_ day).bC (fun _=>True):=by
 simp only [ak.Small,ah.Small,ah.cj] at bj
 simp only [ak.Small,ah.Small,ah.cj] at bR
 simp only [ak.Small,ah.Small,ah.cj] at aX
 unfold sj
 try simp only [eX,bW,qM,yx,aV,ak.Small,ah.Small,ah.cj]
 exact mA
def I2 r forum f c_ day:=kk tok mixed Tryz.func65 [av r.cells,iv forum,av f.cells,av c_.cells,iv day] (fun x=>.fD [iv x.1,iv x.2]) true (sj r forum f c_ day) (Dn r forum f c_ day) (u3 (Sg r forum f c_ day))
theorem of_eq (r:ah) (c:fF):aba r c=({ c with file:=ai c.file c.day },nR r { c with file:=ai c.file c.day }):=rfl
def zF (c:Claim) (a:bD) (s:Unit):(Int × Int) ⊕ Unit:=bif (a.kind == 6&&a.dQ == c.aH)&&a.at_ == c.c9 then .inl (15,a.day) else .inr ()
theorem start_eq (r:ah) (fo:Int) (f:ak) (c:Claim) (day:Int):eS r fo f c day=bif c.dF == 0 then (13,bJ r fo f day) else walk (zF c) (fun _=>(14,iO r fo f day)) f.aw ():=by
 simp only [eS,og,Sk.dK,Sk.gd,Sk.iP,Sk.fB,Sk.jt,Sk.l7,Sk.dn,il.A1,kk,kp,bW,m7]
 congr 1
 refine (dT f.aw (fun s i=>i) (zF c) id _ (fun s i hi=>?_) (fun s=>?_) (by simp) ()).trans rfl
 ·rw [decide_eq_true (by omega),cond_true]
  unfold zF
  cases (((f.aw.getD i default).kind == 6&&(f.aw.getD i default).dQ == c.aH)&&(f.aw.getD i default).at_ == c.c9) <;> rfl
 ·rw [decide_eq_false (by omega),cond_false]
theorem Gw (r:ah) (fo:Int) (f:ak) (day:Int):iO r fo f day=bM ⟨r,fo,ai f day,0,day,bJ r fo f day⟩:=by kernel_rfl
theorem D8 (a:bD) (c:Claim):jq a c=bif a.at_ != c.sign then false else (a.kind == 9)||((a.kind == 8)&&((c.aH == (-1))||(a.dQ == c.aH))):=by kernel_rfl
def zG (c:Claim) (first n:Int) (a:bD) (last:Int):Int:=bif (jq a c&&decide (a.day≥first))&&decide (a.day≤last) then ar (a.day+n) else last
def H6 (c:Claim) (first n:Int) (l:List bD):Int:=l.foldl (fun s a=>zG c first n a s) (ar (first+n))
def AG (r:ah) (fo:Int) (x:ak) (c:Claim) (day:Int):mb:=nm r fo (eS r fo x c day).1 ⟨x,c.sign,c.sign,-1,bJ r fo x day,day⟩
def Nn (r:ah) (fo:Int) (x:ak) (c:Claim) (day:Int):Int × Int :=
 bif decide (c.sign < 0)||decide (c.sign≥(x.af.length:Int)) then (0,1)
 else bif (AG r fo x c day).err != 0||(eS r fo x c day).2 == -1 then (0,4)
 else bif !(AG r fo x c day).cell.known then (0,17) else (H6 c (eS r fo x c day).2 (AG r fo x c day).cell.n x.aw,0)
theorem abE (r:ah) (fo:Int) (f:ak) (c:Claim) (day:Int):Dn r fo f c day=Nn r fo (ai f day) c day:=by
 unfold Dn sj Nn AG
 rw [Sk.jt]
 have hx:(il.c (aV f day)).v=ai f day:=rfl
 rw [hx]
 generalize ai f day=x
 rw [Sk.fB,Sk.dn]
 congr 1
 rw [Sk.jt]
 have hv:(il.c (yx r fo x c day)).v=eS r fo x c day:=rfl
 rw [hv]
 generalize eS r fo x c day=v
 simp only [Sk.dK,Sk.gd,Sk.iP,Sk.fB,Sk.jt,Sk.l7,Sk.dn,il.A1,kk,kp,qM,bW,eX]
 congr 1
 congr 1
 generalize nm r fo v.1 ⟨x,c.sign,c.sign,-1,bJ r fo x day,day⟩=w
 refine (dT x.aw (fun s i=>(s,i)) (fun a s=>.inr (zG c v.2 w.cell.n a s)) id _ (fun s i hi=>?_) (fun s=>?_) (by simp) _).trans ?_
 ·have e:decide ((i:Int) < (x.aw.length:Int))=true:=decide_eq_true (by omega)
  simp only [e,cond_true]
  unfold zG
  cases ((jq (x.aw.getD i default) c&&decide ((x.aw.getD i default).day≥v.2))&&decide ((x.aw.getD i default).day≤s)) <;> rfl
 ·have e:decide ((x.aw.length:Int) < (x.aw.length:Int))=false:=decide_eq_false (by omega)
  simp only [e,cond_false]; rfl
 ·rw [j5]; rfl
def qA (r:ah) (forum:Int) (f:ak) (c_:Claim) (day:Int):Sk (Int) :=
 .r 1 ((I2 r forum f c_ day).c) fun x1 =>
 .br (x1.2 == 17)
 (.fin 2)
 (.br ((x1.2 == 0)&&(decide (day > x1.1)))
 (.fin 1)
 (.fin 0))
def dr r forum f c_ day:=(qA r forum f c_ day).val
theorem Km (r:ah) (forum:Int) (f:ak) (c_:Claim) (day:Int) (bj:f.Small) (bR:r.cj) (aX:r.Small):(qA r forum f c_ day).bC (fun _=>True):=by
 simp only [ak.Small,ah.Small,ah.cj] at bj
 simp only [ak.Small,ah.Small,ah.cj] at bR
 simp only [ak.Small,ah.Small,ah.cj] at aX
 unfold qA
 try simp only [I2,ak.Small,ah.Small,ah.cj]
 exact mA
def oh r forum f c_ day:=kk tok mixed Tryz.func40 [av r.cells,iv forum,av f.cells,av c_.cells,iv day] (fun x=>iv x) true (qA r forum f c_ day) (dr r forum f c_ day) (u3 (Km r forum f c_ day))
def mz (c_:Claim) (v:ah) (v':Int) (gN:ak) (cO:Int):Sk (Bool) :=
 .r 1 ((oh v v' gN c_ cO).c) fun x1 =>
 .fin (x1 == 1)
def cy c_ v v' gN cO:=(mz c_ v v' gN cO).val
theorem ER (c_:Claim) (v:ah) (v':Int) (gN:ak) (cO:Int) (aif:gN.Small) (zH:v.cj) (vD:v.Small):(mz c_ v v' gN cO).bC (fun _=>True):=by
 simp only [ak.Small,ah.Small,ah.cj] at aif
 simp only [ak.Small,ah.Small,ah.cj] at zH
 simp only [ak.Small,ah.Small,ah.cj] at vD
 unfold mz
 try simp only [oh,ak.Small,ah.Small,ah.cj]
 exact mA
def iC c_ v v' gN cO:=kk tok mixed Tryz.func39 [av c_.cells,.ref v.cells,.ref [dI v'],.ref gN.cells,.ref [dI cO]] (fun x=>bv x) true (mz c_ v v' gN cO) (cy c_ v v' gN cO) (u3 (ER c_ v v' gN cO))
def gz (s:List Claim) (v:ah) (v':Int) (gN:ak) (cO:Int):Sk (Int) :=
 .bind true (fun b1=>∀ q,q < s.length→cy (s.getD q default) v v' gN cO=false)
 (.loop (default:Sum (Int) (Unit)) (fun i2=>∀ q,q < i2→cy (s.getD q default) v v' gN cO=false) (fun i2=>s.length - i2) (0:Nat)
 (fun (i2:Nat)=>⟨[(8,iv (i2:Int))],[]⟩) fun i2 =>
 .lt 0 0 i2 s.length
 (.r 4 (.aj (.p (bU (i2:Int) s.length)) ((iC (s.getD i2 default) v v' gN cO).c)) fun x3 =>
 .br x3
 (.fin (.inl (.inl (i2:Int))))
 (.nx 6 8 i2 (i2+1)))
 (.fin (.inl (.inr ()))))
 (fun (_:Unit)=>⟨[],[]⟩) fun _ =>
 .fin (-1)
def DU s v v' gN cO:=(gz s v v' gN cO).val
theorem zI (s:List Claim) (v:ah) (v':Int) (gN:ak) (cO:Int):(gz s v v' gN cO).dj (fun (x:Int)=>(x = -1∧∀ q,q < s.length→cy (s.getD q default) v v' gN cO=false)∨(0≤x∧x < s.length∧cy (s.getD x.toNat default) v v' gN cO=true∧∀ q,(q:Nat) < x.toNat→cy (s.getD q default) v v' gN cO=false)):=by
 unfold gz
 try simp only [iC,ak.Small,ah.Small,ah.cj]
 exact Fz
theorem AH (s:List Claim) (v:ah) (v':Int) (gN:ak) (cO:Int) (xI:gN.Small) (zH:v.cj) (vD:v.Small):(gz s v v' gN cO).bC (fun _=>True):=by
 simp only [ak.Small,ah.Small,ah.cj] at xI
 simp only [ak.Small,ah.Small,ah.cj] at zH
 simp only [ak.Small,ah.Small,ah.cj] at vD
 unfold gz
 try simp only [iC,ak.Small,ah.Small,ah.cj]
 exact mA
def m8 s v v' gN cO:=kp tok mixed Tryz.func63 [lv Claim.cells s,.fn 39 [.ref v.cells,.ref [dI v'],.ref gN.cells,.ref [dI cO]]] (fun x=>iv x) true (DU s v v' gN cO) (u3 (AH s v v' gN cO)) (zI s v v' gN cO)
structure H7 {α:Type} [Inhabited α] (del:α→Bool) (s l:List α) (i j:Int):Prop where
 len:l.length=s.length
 i0:0≤i
 ij:i < j
 jn:j≤(s.length:Int)
 kept:l.take i.toNat=(s.take j.toNat).filter fun c=>!del c
 rest:∀ q:Nat,j≤(q:Int)→q < s.length→l.getD q default=s.getD q default
theorem sm {α:Type} [Inhabited α] {l:List α} {n:Nat} (h:n < l.length):l.take (n+1)=l.take n++[l.getD n default]:=by
 rw [List.take_add_one]
 simp [List.getD,h]
theorem filter_all {α:Type} [Inhabited α] {p:α→Bool} {l:List α} {n:Nat} (hn:n≤l.length) (h:∀ q,q < n→p (l.getD q default)=true):(l.take n).filter p=l.take n:=by
 refine List.filter_eq_self.2 (fun x hx=>?_)
 obtain ⟨q,hq,rfl⟩:=List.getElem_of_mem hx
 have QS:q < n:=by simp at hq; omega
 have:=h q QS
 rw [show l.getD q default=(l.take n)[q] by simp [List.getD,List.getElem?_eq_getElem (show q < l.length by omega)]] at this
 exact this
theorem H7.init {α:Type} [Inhabited α] {del:α→Bool} {s:List α} {x:Int} (h0:0≤x) (h1:x < (s.length:Int)) (hd:del (s.getD x.toNat default)=true) (hk:∀ q,q < x.toNat→del (s.getD q default)=false):H7 del s s x (x+1):=by
 refine ⟨rfl,h0,by omega,by omega,?_,fun _ _ _=>rfl⟩
 rw [show (x+1).toNat=x.toNat+1 by omega,sm (by omega),List.filter_append,filter_all (by omega) (fun q hq=>by rw [hk q hq]; rfl)]
 simp only [List.filter_cons,hd,Bool.not_true,Bool.false_eq_true,if_false,List.filter_nil,List.append_nil]
theorem H7.keep {α:Type} [Inhabited α] {del:α→Bool} {s l:List α} {i j:Int} (h:H7 del s l i j) (hj:j < (l.length:Int)) (hd:del (l.getD j.toNat default)=false):H7 del s (l.set i.toNat (l.getD j.toNat default)) (i+1) (j+1):=by
 have hl:=h.len
 have h0:=h.i0
 have h1:=h.ij
 have hr:=h.rest j.toNat (by omega) (by omega)
 refine ⟨by simpa using hl,by omega,by omega,by omega,?_,fun q hq hq2=>?_⟩
 ·rw [show (i+1).toNat=i.toNat+1 by omega,show (j+1).toNat=j.toNat+1 by omega,sm (by simp; omega),sm (l:=s) (by omega),List.filter_append,← h.kept,List.take_set_of_le (Nat.le_refl _)]
  congr 1
  rw [hr] at hd ⊢
  simp only [List.filter_cons,hd,Bool.not_false,if_true,List.filter_nil]
  simp [List.getD,show i.toNat < l.length by omega]
 ·rw [← h.rest q (by omega) hq2]
  simp only [List.getD]
  rw [List.getElem?_set_ne (by omega)]
theorem H7.drop {α:Type} [Inhabited α] {del:α→Bool} {s l:List α} {i j:Int} (h:H7 del s l i j) (hj:j < (l.length:Int)) (hd:del (l.getD j.toNat default)=true):H7 del s l i (j+1):=by
 have hl:=h.len
 have h0:=h.i0
 have h1:=h.ij
 have hr:=h.rest j.toNat (by omega) (by omega)
 refine ⟨hl,by omega,by omega,by omega,?_,fun q hq hq2=>h.rest q (by omega) hq2⟩
 rw [show (j+1).toNat=j.toNat+1 by omega,sm (l:=s) (by omega),List.filter_append,← h.kept]
 rw [hr] at hd
 simp only [List.filter_cons,hd,Bool.not_true,Bool.false_eq_true,if_false,List.filter_nil,List.append_nil]
def abF {α:Type} (del:α→Bool) (s l:List α) (i:Int):Prop:=l.length=s.length∧0≤i∧i≤(s.length:Int)∧l.take i.toNat=s.filter fun c=>!del c
theorem H7.done {α:Type} [Inhabited α] {del:α→Bool} {s l:List α} {i j:Int} (h:H7 del s l i j) (hj:¬ j < (l.length:Int)):abF del s l i:=by
 have hl:=h.len
 have h1:=h.ij
 have h2:=h.jn
 refine ⟨hl,h.i0,by omega,?_⟩
 rw [h.kept,List.take_of_length_le (by omega)]
theorem ZD {α:Type} [Inhabited α] {l:List α} {n:Nat} (h:n≤l.length):mZ l 0 n=l.take n:=by
 refine List.ext_getElem (by simp [mZ,h]) (fun q h1 h2=>?_)
 have hq:q < l.length:=by simp at h2; omega
 simp [mZ,List.getD,hq]
theorem abF.res {α:Type} [Inhabited α] {del:α→Bool} {s l:List α} {i:Int} {z:α} (h:abF del s l i):mZ (G7 l i.toNat z) 0 i.toNat=s.filter fun c=>!del c:=by
 have h2:=h.1
 have h3:=h.2.2.1
 rw [← h.2.2.2,ZD (by rw [BS]; omega)]
 simp only [G7]
 rw [List.take_append_of_le_length (by simp; omega),List.take_take,Nat.min_self]
theorem filter_none {α:Type} [Inhabited α] {del:α→Bool} {s:List α} (h:∀ q,q < s.length→del (s.getD q default)=false):s=s.filter fun c=>!del c:=by
 have:=filter_all (p:=fun c=>!del c) (l:=s) (n:=s.length) (Nat.le_refl _) (fun q hq=>by rw [h q hq]; rfl)
 rw [List.take_length] at this
 exact this.symm
def dS (s:List Claim) (v:ah) (v':Int) (gN:ak) (cO:Int):Sk ((List Claim)) :=
 .r 1 ((m8 s v v' gN cO).c) fun x1 =>
 .br (x1 == (-1))
 (.fin s)
 (.bind true (fun b2=>abF (fun c_=>cy c_ v v' gN cO) s b2.1 b2.2)
 (.loop (default:Sum ((List Claim)) ((List Claim) × Int)) (fun i3=>H7 (fun c_=>cy c_ v v' gN cO) s i3.1 i3.2.1 i3.2.2) (fun i3=>((s.length:Int) - i3.2.2).toNat) ((s,x1,ar (x1+1)):(List Claim) × Int × Int)
 (fun (i3:(List Claim) × Int × Int)=>⟨[(0,ow 100002 i3.1),(5,iv i3.2.1),(6,iv i3.2.2)],[(100002,bw 83 9 Claim.cells i3.1)]⟩) fun i3 =>
 .br (decide (i3.2.2 < ((i3.1.length:Nat):Int)))
 (.r 7 (.aj (.p (bU i3.2.2 i3.1.length)) (.p (i3.2.2.toNat < i3.1.length))) fun _ =>
 .r 8 ((iC (i3.1.getD i3.2.2.toNat default) v v' gN cO).c) fun x4 =>
 .br (!x4)
 (.r 9 (.aj (.p (bU i3.2.1 i3.1.length)) (.aj (.o [.eG (uh Claim.E i3.1 i3.2.1.toNat (i3.1.getD i3.2.2.toNat default))]) (.p (i3.2.1.toNat < i3.1.length)))) fun _ =>
 .wn 100002 i3.1.length (i3.1.set i3.2.1.toNat (i3.1.getD i3.2.2.toNat default)).length <|
 .fin (.inr (i3.1.set i3.2.1.toNat (i3.1.getD i3.2.2.toNat default),ar (i3.2.1+1),ar (i3.2.2+1))))
 (.fin (.inr (i3.1,i3.2.1,ar (i3.2.2+1)))))
 (.fin (.inl (.inr (i3.1,i3.2.1)))))
 (fun (b2:(List Claim) × Int)=>⟨[(0,ow 100001 b2.1),(5,iv b2.2)],[(100001,bw 83 9 Claim.cells b2.1)]⟩) fun b2 =>
 .PY 11 b2.2 (ahF Claim.E b2.1 b2.2.toNat ({ bL:=0,aH:=0,part:=0,sign:=0,c9:=0,dF:=0,sum:=0,au:=0,state:=0 }:Claim) [dI 0,dI 0,dI 0,dI 0,dI 0,dI 0,dI 0,dI 0,dI 0] (by kernel_rfl)) <|
 .r 12 (.aj (.o [.eG (afV Claim.E (G7 b2.1 b2.2.toNat ({ bL:=0,aH:=0,part:=0,sign:=0,c9:=0,dF:=0,sum:=0,au:=0,state:=0 }:Claim)) b2.2.toNat)]) (.p (0≤b2.2∧b2.2≤(((G7 b2.1 b2.2.toNat ({ bL:=0,aH:=0,part:=0,sign:=0,c9:=0,dF:=0,sum:=0,au:=0,state:=0 }:Claim)).length:Nat):Int)))) fun _ =>
 .fin (mZ (G7 b2.1 b2.2.toNat ({ bL:=0,aH:=0,part:=0,sign:=0,c9:=0,dF:=0,sum:=0,au:=0,state:=0 }:Claim)) 0 b2.2.toNat))
def kK s v v' gN cO:=(dS s v v' gN cO).val
theorem yy (s:List Claim) (v:ah) (v':Int) (gN:ak) (cO:Int) (hP:s.length≤1000000000):(dS s v v' gN cO).dj (fun (x:(List Claim))=>x=s.filter fun c_=>!cy c_ v v' gN cO):=by
 refine Sk.bz _ ?_
 unfold dS
 simp only [Sk.de,Sk.aI,reduceCtorEq,ON,kk,kp,iC,m8,maxLen]
 intro x _ hx
 refine ⟨fun hc=>filter_none (del:=(fun c_=>cy c_ v v' gN cO)) (hx.elim (fun h=>h.2) (fun h=>absurd (beq_iff_eq.1 hc) (by omega))),fun hc=>⟨⟨?_,fun i hi=>⟨fun hj _ y hy=>⟨fun hn _=>?_,fun hn=>?_⟩,fun hj=>?_⟩⟩,fun b hb _=>abF.res (del:=(fun c_=>cy c_ v v' gN cO)) hb⟩⟩
 all_goals simp only [LN] at hc
 ·have hx:=hx.resolve_left (fun e=>hc e.1)
  rw [aA (by omega) (by omega)]
  exact H7.init (del:=(fun c_=>cy c_ v v' gN cO)) hx.1 hx.2.1 hx.2.2.1 hx.2.2.2
 all_goals have VH:=hi.len
 all_goals have hj3:=hi.i0
 all_goals have hj4:=hi.ij
 all_goals have hj5:=hi.jn
 all_goals simp only [LN] at hj
 ·rw [aA (n:=i.2.1+1) (by omega) (by omega),aA (n:=i.2.2+1) (by omega) (by omega)]
  exact ⟨hi.keep (by omega) (by subst hy; simpa using hn),by omega⟩
 ·rw [aA (by omega) (by omega)]
  exact ⟨hi.drop (by omega) (by subst hy; simpa using hn),by omega⟩
 ·exact hi.done (by omega)
theorem xc (s:List Claim) (v:ah) (v':Int) (gN:ak) (cO:Int):(fun (x:(List Claim))=>(s.length≤1000000000)→(x=s.filter fun c_=>!cy c_ v v' gN cO)) (kK s v v' gN cO):=fun hP=>Sk.dk _ (yy s v v' gN cO hP)
theorem zJ (s:List Claim) (v:ah) (v':Int) (gN:ak) (cO:Int) (hs:s.length≤1000000000) (xI:gN.Small) (zH:v.cj) (vD:v.Small):(dS s v v' gN cO).bC (fun _=>True):=by
 refine Sk.aR _ ?_
 unfold dS
 simp only [Sk.ju,Sk.aI,reduceCtorEq,ON,kk,kp,iC,m8,maxLen]
 refine ⟨by (repeat' first | assumption | trivial | apply And.intro),fun x _ hx hc=>⟨⟨?_,fun i hi=>⟨fun hj=>⟨?_,fun _=>⟨by (repeat' first | assumption | trivial | apply And.intro),fun y hy=>⟨fun hn=>⟨?_,fun _=>⟨?_,?_⟩⟩,fun hn=>?_⟩⟩⟩,fun hj=>?_⟩⟩,fun b hb=>?_⟩⟩
 all_goals simp only [LN] at hc
 ·have hx:=hx.resolve_left (fun e=>hc e.1)
  rw [aA (by omega) (by omega)]
  exact H7.init (del:=(fun c_=>cy c_ v v' gN cO)) hx.1 hx.2.1 hx.2.2.1 hx.2.2.2
 rotate_right 1
 ·have h1:=hb.1
  have h2:=hb.2.1
  have h3:=hb.2.2.1
  refine ⟨⟨h2,?_⟩,h2,by rw [BS]; omega⟩
  show b.2≤((b.1.length:Nat):Int)
  omega
 all_goals have VH:=hi.len
 all_goals have hj3:=hi.i0
 all_goals have hj4:=hi.ij
 all_goals have hj5:=hi.jn
 all_goals simp only [LN] at hj
 ·omega
 ·omega
 ·rw [List.length_set]
 ·rw [aA (n:=i.2.1+1) (by omega) (by omega),aA (n:=i.2.2+1) (by omega) (by omega)]
  exact ⟨hi.keep (by omega) (by subst hy; simpa using hn),by omega⟩
 ·rw [aA (by omega) (by omega)]
  exact ⟨hi.drop (by omega) (by subst hy; simpa using hn),by omega⟩
 ·exact hi.done (by omega)
theorem yz (s:List Claim) (v:ah) (v':Int) (gN:ak) (cO:Int) (hs:s.length≤1000000000) (xI:gN.Small) (zH:v.cj) (vD:v.Small):gR Tryz.prog 37 [ow 777776 s,.fn 39 [.ref v.cells,.ref [dI v'],.ref gN.cells,.ref [dI cO]]] [(777776,bw 83 9 Claim.cells s)] (ow 777777 (kK s v v' gN cO)) [(777777,bw 83 9 Claim.cells (kK s v v' gN cO))] :=
 gR.sk tok mixed (fun x=>ow 777777 x) (fun x=>[(777777,bw 83 9 Claim.cells x)]) Tryz.func37 rfl (by kernel_rfl) 3000 (dS s v v' gN cO) (by kernel_rfl) (zJ s v v' gN cO hs xI zH vD)
def fR (κ κ':Nat) (s:List Claim) (v:ah) (v':Int) (gN:ak) (cO:Int):yU ((List Claim)):=⟨Tryz.prog,37,[ow κ s,.fn 39 [.ref v.cells,.ref [dI v'],.ref gN.cells,.ref [dI cO]]],[(κ,bw 83 9 Claim.cells s)],fun x=>ow κ' x,fun x=>[(κ',bw 83 9 Claim.cells x)],kK s v v' gN cO,(s.length≤1000000000)∧(gN.Small)∧(v.cj)∧(v.Small),fun h=>gR.Wu κ rfl (gR.Wt κ' (yz s v v' gN cO h.1 h.2.1 h.2.2.1 h.2.2.2)),fun (x:(List Claim))=>(s.length≤1000000000)→(x=s.filter fun c_=>!cy c_ v v' gN cO),xc s v v' gN cO⟩
theorem UZ {α:Type} (g:α→α) (l:List α) (n:Nat):((l.take n).map g++l.drop n).length=l.length:=by
 simp only [List.length_append,List.length_map,List.length_take,List.length_drop]
 omega
theorem wF {α:Type} [Inhabited α] (g:α→α) {l:List α} {n:Nat} (h:n < l.length):((l.take n).map g++l.drop n).getD n default=l.getD n default:=by
 simp only [List.getD]
 rw [List.getElem?_append_right (by simp; omega)]
 have:n - ((l.take n).map g).length=0:=by simp; omega
 rw [this,List.getElem?_drop,Nat.add_zero]
theorem Gx {α:Type} [Inhabited α] (g:α→α) {l:List α} {n:Nat} (h:n < l.length):((l.take n).map g++l.drop n).set n (g (l.getD n default))=(l.take (n+1)).map g++l.drop (n+1):=by
 have h1:((l.take n).map g).length=n:=by simp; omega
 have h2:l[n]?.toList=[l.getD n default]:=by simp [List.getD,h]
 rw [List.set_append_right _ _ (by omega),h1,Nat.sub_self,List.take_add_one,h2,List.drop_eq_getElem_cons h,List.set_cons_zero,List.map_append,List.append_assoc,List.map_cons,List.map_nil,List.singleton_append]
theorem H8 {α:Type} [Inhabited α] (g:α→α) {l:List α} {n:Nat} (h:n < l.length) (hg:g (l.getD n default)=l.getD n default):(l.take n).map g++l.drop n=(l.take (n+1)).map g++l.drop (n+1):=by
 rw [← Gx g h,hg,← wF g h]
 have h2:n < ((l.take n).map g++l.drop n).length:=by rw [UZ]; exact h
 generalize (l.take n).map g++l.drop n=m at h2
 refine List.ext_getElem (by simp) (fun i h3 h4=>?_)
 rw [List.getElem_set]
 split
 ·rename_i e
  subst e
  simp [List.getD,h2]
 ·rfl
theorem U0 {α:Type} (g:α→α) {l:List α} {n:Nat} (h:l.length≤n):(l.take n).map g++l.drop n=l.map g:=by
 rw [List.take_of_length_le h,List.drop_of_length_le h,List.append_nil]
theorem Gy {r:ah} {forum:Int} {f:ak} {day:Int} {l:List Claim} (hF:cb r f) (h:yu (ai f day) (cm r forum f day) (ai f day).aw.length l):l.length≤1000000000:=by
 have h1:=h.count.1
 have h2:=Ng (forum:=forum) (day:=day) hF
 have h3:=hF.2.1.2.2.2.1
 have h5:=(B8 f day).2.1
 have h4:=Nat.mul_le_mul (show (ai f day).aw.length≤100 by omega) h2
 omega
def yA (r:ah) (forum:Int) (f:ak) (day:Int) (c:Claim):Claim:=bif dr r forum f c day == 2 then { c with state:=2 } else c
def s5 (r:ah) (forum:Int) (f:ak) (day:Int) (c:Claim):Bool:=!(dr r forum f c day == 1)
theorem Sh (r:ah) (forum:Int) (f:ak) (day:Int):(fun c_=>!cy c_ r forum f day)=s5 r forum f day:=by
 funext c
 show (!cy c r forum f day) = !(dr r forum f c day == 1)
 congr 1
def kf (r:ah) (forum:Int) (f:ak) (day:Int):Sk ((List Claim)) :=
 .r 0 (.aj (.o [.pur 4]) (.aj (.o [.pur 5]) (.aj (.o [.pur 6]) (.o [.pur 7])))) fun _ =>
 .r 1 (.dep ((yw 16 r forum f day).c) fun x1=>(fR 16 18 x1 r forum f day).c) fun p6 =>
 .bind true (fun b3=>b3=p6.2.map (yA r forum f day))
 (.loop (default:Sum ((List Claim)) ((List Claim))) (fun i4=>i4.2≤p6.2.length∧i4.1=(p6.2.take i4.2).map (yA r forum f day)++p6.2.drop i4.2) (fun i4=>p6.2.length - i4.2) ((p6.2,0):(List Claim) × Nat)
 (fun (i4:(List Claim) × Nat)=>⟨[(9,ow 100002 i4.1),(19,ow 100002 i4.1),(21,iv (i4.2:Int))],[(100002,bw 83 9 Claim.cells i4.1)]⟩) fun i4 =>
 .br (decide ((i4.2:Int) < ((p6.2.length:Nat):Int)))
 (.r 4 (.aj (.p (bU (i4.2:Int) i4.1.length)) (.p (i4.2 < i4.1.length))) fun _ =>
 .r 5 ((oh r forum f (i4.1.getD i4.2 default) day).c) fun x5 =>
 .br (x5 == 2)
 (.r 6 (.aj (.p (bU (i4.2:Int) i4.1.length)) (.aj (.o [.eG (uh Claim.E i4.1 i4.2 ({ i4.1.getD i4.2 default with state:=2 }))]) (.p (i4.2 < i4.1.length)))) fun _ =>
 .wn 100002 i4.1.length (i4.1.set i4.2 ({ i4.1.getD i4.2 default with state:=2 })).length <|
 .nx 7 21 i4.2 (i4.1.set i4.2 ({ i4.1.getD i4.2 default with state:=2 }),i4.2+1))
 (.nx 7 21 i4.2 (i4.1,i4.2+1)))
 (.fin (.inl (.inr i4.1))))
 (fun (b3:(List Claim))=>⟨[(9,ow 100001 b3)],[(100001,bw 83 9 Claim.cells b3)]⟩) fun b3 =>
 .fin b3
def cG r forum f day:=(kf r forum f day).val
theorem H9 (r:ah) (forum:Int) (f:ak) (day:Int) (hP:cb r f):(kf r forum f day).dj (fun (x:(List Claim))=>x=((eQ r forum f day).filter (s5 r forum f day)).map (yA r forum f day)):=by
 refine Sk.bz _ ?_
 unfold kf
 simp only [Sk.de,Sk.aI,reduceCtorEq,ON,kk,kp,oh,yw,fR,fR,yU.c,maxLen]
 have hg:∀ c,dr r forum f c day=2→yA r forum f day c = { c with state:=2 }:=fun c h=>by unfold yA; rw [h]; rfl
 have hn:∀ c,dr r forum f c day≠2→yA r forum f day c=c:=fun c h=>by unfold yA; rw [beq_eq_false_iff_ne.2 h]; rfl
 intro _ x hx hp
 have hd:x.2=(eQ r forum f day).filter (s5 r forum f day):=by
  have:=hp.2 (by rw [hx] at hp ⊢; exact Gy hP hp.1)
  rw [this,Sh,hx]
 refine ⟨⟨⟨Nat.zero_le _,by simp⟩,fun i hi=>⟨fun hc _ y hy=>⟨fun h2 _ _=>?_,fun h2 _=>?_⟩,fun hc=>?_⟩⟩,fun b hb=>by rw [hb,hd]⟩
 all_goals simp only [LN] at hc
 ·simp only [LN] at h2
  rw [hi.2,wF _ (by omega)] at hy
  refine ⟨⟨by omega,?_⟩,by omega⟩
  rw [← Gx _ (by omega),hi.2,wF _ (by omega),hg _ (by omega)]
 ·simp only [LN] at h2
  rw [hi.2,wF _ (by omega)] at hy
  refine ⟨⟨by omega,?_⟩,by omega⟩
  rw [← H8 _ (by omega) (hn _ (by omega))]
  exact hi.2
 ·rw [hi.2,U0 _ (by omega)]
theorem nA (r:ah) (forum:Int) (f:ak) (day:Int):(fun (x:(List Claim))=>(cb r f)→(x=((eQ r forum f day).filter (s5 r forum f day)).map (yA r forum f day))) (cG r forum f day):=fun hP=>Sk.dk _ (H9 r forum f day hP)
theorem Kn (r:ah) (forum:Int) (f:ak) (day:Int) (hF:cb r f) (bj:f.Small) (bR:r.cj) (aX:r.Small) (gY:r.im) (gw:r.dg):(kf r forum f day).bC (fun _=>True):=by
 refine Sk.aR _ ?_
 unfold kf
 simp only [Sk.ju,Sk.aI,reduceCtorEq,ON,kk,kp,oh,yw,fR,fR,yU.c,maxLen]
 have hg:∀ c,dr r forum f c day=2→yA r forum f day c = { c with state:=2 }:=fun c h=>by unfold yA; rw [h]; rfl
 have hn:∀ c,dr r forum f c day≠2→yA r forum f day c=c:=fun c h=>by unfold yA; rw [beq_eq_false_iff_ne.2 h]; rfl
 refine fun _=>⟨⟨⟨hF,bj,bR,aX,gY,gw⟩,fun x _ hp=>⟨Gy hF hp,by (repeat' first | assumption | trivial | apply And.intro)⟩⟩,fun x hx hp=>⟨⟨Nat.zero_le _,by simp⟩,fun i hi=>⟨fun hc=>?_,fun hc=>?_⟩⟩⟩
 all_goals simp only [LN] at hc
 ·have hl:i.1.length=x.2.length:=by rw [hi.2,UZ]
  have hm:x.2.length≤1000000000:=by
   have h1:=hp.1
   have h2:=hp.2 (by rw [hx] at hp ⊢; exact Gy hF hp.1)
   rw [hx] at h1
   have h3:=Gy hF h1
   rw [h2,hx]
   exact Nat.le_trans (List.length_filter_le _ _) h3
  have hw:ar ((i.2:Int)+1)=((i.2+1:Nat):Int):=(aA (by omega) (by omega)).trans (by omega)
  refine ⟨by omega,fun _=>⟨by (repeat' first | assumption | trivial | apply And.intro),fun y hy=>⟨fun h2=>⟨by omega,fun _=>⟨by rw [List.length_set],fun _=>⟨hw,⟨by omega,?_⟩,by omega⟩⟩⟩,fun h2 _=>⟨hw,⟨by omega,?_⟩,by omega⟩⟩⟩⟩
  all_goals rw [hi.2,wF _ (by omega)] at hy
  all_goals simp only [LN] at h2
  ·rw [← Gx _ (by omega),hi.2,wF _ (by omega),hg _ (by omega)]
  ·rw [← H8 _ (by omega) (hn _ (by omega))]
   exact hi.2
 ·rw [hi.2,U0 _ (by omega)]
def oj r forum f day:=kk tok mixed Tryz.func19 [av r.cells,iv forum,av f.cells,iv day] (fun x=>lv Claim.cells x) false (kf r forum f day) (cG r forum f day) (u6 (Kn r forum f day)) (fun (x:(List Claim))=>(cb r f)→(x=((eQ r forum f day).filter (s5 r forum f day)).map (yA r forum f day))) (nA r forum f day)
structure cx where
 r:ah
 forum:Int
 day:Int
 files:List ak
 s:cS
 deriving Inhabited
def cx.cells (c:cx):List D:=c.r.cells++[dI c.forum,dI c.day,nJ ak.cells c.files]++c.s.cells
def cx.zK (x:cx):Prop:=(x.r.Small∧x.r.cj∧x.r.im∧x.r.dg)∧(∀ q,q < x.files.length→(x.files.getD q default).Small∧cb x.r (x.files.getD q default))∧(0≤x.s.file∧x.s.file < x.files.length)
def jO (x_:cx) (c_:Claim):Sk (Int) :=
 .r 1 (.aj (.p (bU x_.s.file x_.files.length)) ((aV (x_.files.getD x_.s.file.toNat default) x_.day).c)) fun x1 =>
 .bt
 (.Dz <|
 .Dz <|
 .fin (.inr ()))
 (fun (_:Unit)=>⟨[],[]⟩) fun _ =>
 .r 17 (.aj (.p (0≤(0:Int)∧(0:Int) < ((7:Nat):Int))) ((cI x1 0 c_.sign).c)) fun x3 =>
 .br (!x3.known)
 (.fin 2)
 (.br (x3.n == 0)
 (.fin 1)
 (.fin 0))
def wG x_ c_:=(jO x_ c_).val
theorem Bj (x_:cx) (c_:Claim) (hx:x_.zK):(jO x_ c_).bC (fun _=>True):=by
 refine Sk.aR _ ?_
 unfold jO
 simp only [Sk.ju,Sk.aI,reduceCtorEq,ON,kk,kp,aV,cI,maxLen]
 obtain ⟨⟨h1,h2,h3,h4⟩,h5,h6⟩:=hx
 have h7:=h5 x_.s.file.toNat (by omega)
 have hx:x_.zK:=⟨⟨h1,h2,h3,h4⟩,h5,h6⟩
 all_goals (repeat' first | exact hx | exact h7.1 | exact h7.2 | assumption | (with_reducible apply And.intro) | (intro h))
 all_goals try simp only [LN] at *
 all_goals first | trivial | assumption | omega | (rw [aA (by omega) (by omega)]; omega)
def CD x_ c_:=kk tok mixed Tryz.func22 [av x_.cells,av c_.cells,iv 0] (fun x=>iv x) true (jO x_ c_) (wG x_ c_) (Bj x_ c_)
def jP (x_:cx) (c_:Claim):Sk (Int) :=
 .r 1 (.aj (.p (bU x_.s.file x_.files.length)) ((aV (x_.files.getD x_.s.file.toNat default) x_.day).c)) fun x1 =>
 .bt
 (.Dz <|
 .Dz <|
 .fin (.inr ()))
 (fun (_:Unit)=>⟨[],[]⟩) fun _ =>
 .r 17 (.aj (.p (0≤(1:Int)∧(1:Int) < ((7:Nat):Int))) ((cI x1 1 c_.sign).c)) fun x3 =>
 .br (!x3.known)
 (.fin 2)
 (.br (x3.n == 0)
 (.fin 1)
 (.fin 0))
def wH x_ c_:=(jP x_ c_).val
theorem Bk (x_:cx) (c_:Claim) (hx:x_.zK):(jP x_ c_).bC (fun _=>True):=by
 refine Sk.aR _ ?_
 unfold jP
 simp only [Sk.ju,Sk.aI,reduceCtorEq,ON,kk,kp,aV,cI,maxLen]
 obtain ⟨⟨h1,h2,h3,h4⟩,h5,h6⟩:=hx
 have h7:=h5 x_.s.file.toNat (by omega)
 have hx:x_.zK:=⟨⟨h1,h2,h3,h4⟩,h5,h6⟩
 all_goals (repeat' first | exact hx | exact h7.1 | exact h7.2 | assumption | (with_reducible apply And.intro) | (intro h))
 all_goals try simp only [LN] at *
 all_goals first | trivial | assumption | omega | (rw [aA (by omega) (by omega)]; omega)
def CE x_ c_:=kk tok mixed Tryz.func22 [av x_.cells,av c_.cells,iv 1] (fun x=>iv x) true (jP x_ c_) (wH x_ c_) (Bk x_ c_)
def jQ (x_:cx) (c_:Claim):Sk (Int) :=
 .r 1 (.aj (.p (bU x_.s.file x_.files.length)) ((aV (x_.files.getD x_.s.file.toNat default) x_.day).c)) fun x1 =>
 .bt
 (.Dz <|
 .Dz <|
 .fin (.inr ()))
 (fun (_:Unit)=>⟨[],[]⟩) fun _ =>
 .r 17 (.aj (.p (0≤(2:Int)∧(2:Int) < ((7:Nat):Int))) ((cI x1 2 c_.sign).c)) fun x3 =>
 .br (!x3.known)
 (.fin 2)
 (.br (x3.n == 0)
 (.fin 1)
 (.fin 0))
def wI x_ c_:=(jQ x_ c_).val
theorem Bl (x_:cx) (c_:Claim) (hx:x_.zK):(jQ x_ c_).bC (fun _=>True):=by
 refine Sk.aR _ ?_
 unfold jQ
 simp only [Sk.ju,Sk.aI,reduceCtorEq,ON,kk,kp,aV,cI,maxLen]
 obtain ⟨⟨h1,h2,h3,h4⟩,h5,h6⟩:=hx
 have h7:=h5 x_.s.file.toNat (by omega)
 have hx:x_.zK:=⟨⟨h1,h2,h3,h4⟩,h5,h6⟩
 all_goals (repeat' first | exact hx | exact h7.1 | exact h7.2 | assumption | (with_reducible apply And.intro) | (intro h))
 all_goals try simp only [LN] at *
 all_goals first | trivial | assumption | omega | (rw [aA (by omega) (by omega)]; omega)
def CF x_ c_:=kk tok mixed Tryz.func22 [av x_.cells,av c_.cells,iv 2] (fun x=>iv x) true (jQ x_ c_) (wI x_ c_) (Bl x_ c_)
def jR (x_:cx) (c_:Claim):Sk (Int) :=
 .r 1 (.aj (.p (bU x_.s.file x_.files.length)) ((aV (x_.files.getD x_.s.file.toNat default) x_.day).c)) fun x1 =>
 .bt
 (.Dz <|
 .Dz <|
 .fin (.inr ()))
 (fun (_:Unit)=>⟨[],[]⟩) fun _ =>
 .r 17 (.aj (.p (0≤(3:Int)∧(3:Int) < ((7:Nat):Int))) ((cI x1 4 c_.sign).c)) fun x3 =>
 .br (!x3.known)
 (.fin 2)
 (.br (x3.n == 0)
 (.fin 1)
 (.fin 0))
def wJ x_ c_:=(jR x_ c_).val
theorem Bm (x_:cx) (c_:Claim) (hx:x_.zK):(jR x_ c_).bC (fun _=>True):=by
 refine Sk.aR _ ?_
 unfold jR
 simp only [Sk.ju,Sk.aI,reduceCtorEq,ON,kk,kp,aV,cI,maxLen]
 obtain ⟨⟨h1,h2,h3,h4⟩,h5,h6⟩:=hx
 have h7:=h5 x_.s.file.toNat (by omega)
 have hx:x_.zK:=⟨⟨h1,h2,h3,h4⟩,h5,h6⟩
 all_goals (repeat' first | exact hx | exact h7.1 | exact h7.2 | assumption | (with_reducible apply And.intro) | (intro h))
 all_goals try simp only [LN] at *
 all_goals first | trivial | assumption | omega | (rw [aA (by omega) (by omega)]; omega)
def CG x_ c_:=kk tok mixed Tryz.func22 [av x_.cells,av c_.cells,iv 3] (fun x=>iv x) true (jR x_ c_) (wJ x_ c_) (Bm x_ c_)
def jS (x_:cx) (c_:Claim):Sk (Int) :=
 .r 1 (.aj (.p (bU x_.s.file x_.files.length)) ((aV (x_.files.getD x_.s.file.toNat default) x_.day).c)) fun x1 =>
 .bt
 (.Dz <|
 .Dz <|
 .fin (.inr ()))
 (fun (_:Unit)=>⟨[],[]⟩) fun _ =>
 .r 17 (.aj (.p (0≤(4:Int)∧(4:Int) < ((7:Nat):Int))) ((cI x1 3 c_.sign).c)) fun x3 =>
 .br (!x3.known)
 (.fin 2)
 (.br (x3.n == 0)
 (.fin 1)
 (.fin 0))
def wK x_ c_:=(jS x_ c_).val
theorem Bn (x_:cx) (c_:Claim) (hx:x_.zK):(jS x_ c_).bC (fun _=>True):=by
 refine Sk.aR _ ?_
 unfold jS
 simp only [Sk.ju,Sk.aI,reduceCtorEq,ON,kk,kp,aV,cI,maxLen]
 obtain ⟨⟨h1,h2,h3,h4⟩,h5,h6⟩:=hx
 have h7:=h5 x_.s.file.toNat (by omega)
 have hx:x_.zK:=⟨⟨h1,h2,h3,h4⟩,h5,h6⟩
 all_goals (repeat' first | exact hx | exact h7.1 | exact h7.2 | assumption | (with_reducible apply And.intro) | (intro h))
 all_goals try simp only [LN] at *
 all_goals first | trivial | assumption | omega | (rw [aA (by omega) (by omega)]; omega)
def CH x_ c_:=kk tok mixed Tryz.func22 [av x_.cells,av c_.cells,iv 4] (fun x=>iv x) true (jS x_ c_) (wK x_ c_) (Bn x_ c_)
def jT (x_:cx) (c_:Claim):Sk (Int) :=
 .r 1 (.aj (.p (bU x_.s.file x_.files.length)) ((aV (x_.files.getD x_.s.file.toNat default) x_.day).c)) fun x1 =>
 .KF <|
 .bt
 (.loop (default:Sum (Int) (Int)) (fun i3=>i3.2≤x1.aw.length) (fun i3=>x1.aw.length - i3.2) ((0,0):Int × Nat)
 (fun (i3:Int × Nat)=>⟨[(8,iv i3.1),(29,iv (i3.2:Int))],[]⟩) fun i3 =>
 .lt 27 0 i3.2 x1.aw.length
 (.r 7 (.p (bU (i3.2:Int) x1.aw.length)) fun _ =>
 .br (((((x1.aw.getD i3.2 default).kind) == 6)&&(((x1.aw.getD i3.2 default).dQ) == x_.s.cW))&&(((x1.aw.getD i3.2 default).cM) != x_.s.cV))
 (.r 10 .z fun _ =>
 .wi 29 (ar ((i3.2:Int)+1)) ((i3.2+1:Nat):Int) <|
 .fin (.inr (ar (i3.1+((x1.aw.getD i3.2 default).sum)),i3.2+1)))
 (.nx 10 29 i3.2 (i3.1,i3.2+1)))
 (.fin (.inl (.inr i3.1))))
 (fun (b2:Int)=>⟨[(8,iv b2)],[]⟩) fun b2 =>
 .br (decide (b2≥c_.sum))
 (.fin 1)
 (.fin 0)
def wL x_ c_:=(jT x_ c_).val
theorem Bo (x_:cx) (c_:Claim) (hx:x_.zK):(jT x_ c_).bC (fun _=>True):=by
 refine Sk.aR _ ?_
 unfold jT
 simp only [Sk.ju,Sk.aI,reduceCtorEq,ON,kk,kp,aV,maxLen]
 obtain ⟨⟨h1,h2,h3,h4⟩,h5,h6⟩:=hx
 have h7:=h5 x_.s.file.toNat (by omega)
 have hx:x_.zK:=⟨⟨h1,h2,h3,h4⟩,h5,h6⟩
 all_goals (repeat' first | exact hx | exact h7.1 | exact h7.2 | assumption | (with_reducible apply And.intro) | (intro h))
 all_goals try simp only [LN] at *
 all_goals first | trivial | assumption | omega | (rw [aA (by omega) (by omega)]; omega)
def CI x_ c_:=kk tok mixed Tryz.func22 [av x_.cells,av c_.cells,iv 5] (fun x=>iv x) true (jT x_ c_) (wL x_ c_) (Bo x_ c_)
def nB (x_:cx) (aO:Int) (c_:Claim) (ch:Int):Sk (Int) :=
 .r 1 (.p (bU x_.s.file x_.files.length)) fun _ =>
 .r 2 ((bW x_.r x_.forum (x_.files.getD x_.s.file.toNat default) x_.day).c) fun x1 =>
 .r 3 (.dep ((eX x_.r x_.forum aO ({ file:=x_.files.getD x_.s.file.toNat default,sign:=c_.sign,jy:=c_.c9,ch:=ch,due:=x1,day:=x_.day }:fF)).c) fun x2=>(eZ x2).c) fun p4 =>
 .fin p4.2
def fj x_ aO c_ ch:=(nB x_ aO c_ ch).val
theorem Gz (x_:cx) (aO:Int) (c_:Claim) (ch:Int) (hx:x_.zK):(nB x_ aO c_ ch).bC (fun _=>True):=by
 refine Sk.aR _ ?_
 unfold nB
 simp only [Sk.ju,Sk.aI,reduceCtorEq,ON,kk,kp,eX,bW,eZ,maxLen]
 obtain ⟨⟨h1,h2,h3,h4⟩,h5,h6⟩:=hx
 have h7:=h5 x_.s.file.toNat (by omega)
 have hx:x_.zK:=⟨⟨h1,h2,h3,h4⟩,h5,h6⟩
 all_goals (repeat' first | exact hx | exact h7.1 | exact h7.2 | assumption | (with_reducible apply And.intro) | (intro h))
 all_goals try simp only [LN] at *
 all_goals first | trivial | assumption | omega | (rw [aA (by omega) (by omega)]; omega)
def lV x_ aO c_ ch:=kk tok mixed Tryz.func23 [av x_.cells,iv aO,av c_.cells,iv ch] (fun x=>iv x) true (nB x_ aO c_ ch) (fj x_ aO c_ ch) (Gz x_ aO c_ ch)
def jU (x_:cx) (c_:Claim):Sk (Int) :=
 .bt
 (.loop (default:Sum (Int) (Int × Int)) (fun i2=>i2.2.2≤x_.files.length) (fun i2=>x_.files.length - i2.2.2) ((0,0,0):Int × Int × Nat)
 (fun (i2:Int × Int × Nat)=>⟨[(5,iv i2.1),(6,iv i2.2.1),(14,iv (i2.2.2:Int))],[]⟩) fun i2 =>
 .lt 12 0 i2.2.2 x_.files.length
 (.bt
 (.r 4 (.p (bU (i2.2.2:Int) x_.files.length)) fun _ =>
 .r 5 ((oj x_.r x_.forum (x_.files.getD i2.2.2 default) x_.day).c) fun x4 =>
 .bt
 (.loop (default:Sum (Sum (Sum (Sum (Int) (Int × Int)) (Int × Int × Nat)) (Int × Int)) (Int × Int × Int)) (fun i6=>i6.2.2≤x4.length) (fun i6=>x4.length - i6.2.2) ((i2.1,i2.2.1,0):Int × Int × Nat)
 (fun (i6:Int × Int × Nat)=>⟨[(5,iv i6.1),(6,iv i6.2.1),(27,iv (i6.2.2:Int))],[]⟩) fun i6 =>
 .lt 25 0 i6.2.2 x4.length
 (.r 7 (.p (bU (i6.2.2:Int) x4.length)) fun _ =>
 .br (((((x4.getD i6.2.2 default).bL) != c_.aH)||(((x4.getD i6.2.2 default).aH) != c_.bL))||(((x4.getD i6.2.2 default).au) != c_.au))
 (.nx 12 27 i6.2.2 (i6.1,i6.2.1,i6.2.2+1))
 (.br (((x4.getD i6.2.2 default).state) == 1)
 (.r 12 .z fun _ =>
 .wi 27 (ar ((i6.2.2:Int)+1)) ((i6.2.2+1:Nat):Int) <|
 .fin (.inr (ar (i6.1+((x4.getD i6.2.2 default).sum)),ar (i6.2.1+((x4.getD i6.2.2 default).sum)),i6.2.2+1)))
 (.r 12 .z fun _ =>
 .wi 27 (ar ((i6.2.2:Int)+1)) ((i6.2.2+1:Nat):Int) <|
 .fin (.inr (i6.1,ar (i6.2.1+((x4.getD i6.2.2 default).sum)),i6.2.2+1)))))
 (.fin (.inl (.inr (i6.1,i6.2.1,(i6.2.2:Int))))))
 (fun (b5:Int × Int × Int)=>⟨[(5,iv b5.1),(6,iv b5.2.1),(27,iv b5.2.2)],[]⟩) fun b5 =>
 .fin (.inr (b5.1,b5.2.1)))
 (fun (b3:Int × Int)=>⟨[(5,iv b3.1),(6,iv b3.2)],[]⟩) fun b3 =>
 .nx 13 14 i2.2.2 (b3.1,b3.2,i2.2.2+1))
 (.fin (.inl (.inr (i2.1,i2.2.1)))))
 (fun (b1:Int × Int)=>⟨[(5,iv b1.1),(6,iv b1.2)],[]⟩) fun b1 =>
 .br (decide (b1.1≥c_.sum))
 (.fin 1)
 (.br (decide (b1.2 < c_.sum))
 (.fin 0)
 (.fin 2))
def ES x_ c_:=(jU x_ c_).val
theorem Bp (x_:cx) (c_:Claim) (hx:x_.zK):(jU x_ c_).bC (fun _=>True):=by
 refine Sk.aR _ ?_
 unfold jU
 simp only [Sk.ju,Sk.aI,reduceCtorEq,ON,kk,kp,oj,maxLen]
 obtain ⟨⟨h1,h2,h3,h4⟩,h5,h6⟩:=hx
 have wi:∀ n m:Nat,n < m→m≤9223372036854775807→ar ((n:Int)+1)=((n+1:Nat):Int):=fun n m h h0=>by rw [aA (by omega) (by omega)]; omega
 simp only [LN]
 refine ⟨Nat.zero_le _,fun i hi hm hc=>⟨⟨⟨by omega,by omega⟩,fun _=>⟨⟨(h5 _ (by omega)).2,(h5 _ (by omega)).1,h2,h1,h3,h4⟩,fun l _ _=>⟨Nat.zero_le _,fun j hj hl hd=>⟨⟨by omega,by omega⟩,fun _=>⟨fun _ _=>⟨wi _ _ (by omega) hl,by omega,by omega⟩,fun _=>⟨fun _ _=>⟨wi _ _ (by omega) hl,by omega,by omega⟩,fun _ _=>⟨wi _ _ (by omega) hl,by omega,by omega⟩⟩⟩⟩⟩⟩⟩,fun b _ _=>⟨wi _ _ (by omega) hm,by omega,by omega⟩⟩⟩
def ub x_ c_:=kk tok mixed Tryz.func43 [av x_.cells,av c_.cells] (fun x=>iv x) true (jU x_ c_) (ES x_ c_) (Bp x_ c_)
def jV (x_:cx) (c_:Claim):Sk (Int) :=
 .r 1 (.aj (.p (bU x_.s.file x_.files.length)) ((aV (x_.files.getD x_.s.file.toNat default) x_.day).c)) fun _ =>
 .Dz <|
 .KF <|
 .r 15 (.dep ((lV x_ 18 c_ 6).c) fun x2=>.dep ((ub x_ c_).c) fun x3=>(iH x2 x3).c) fun p5 =>
 .fin p5.2.2
def wM x_ c_:=(jV x_ c_).val
theorem Bq (x_:cx) (c_:Claim) (hx:x_.zK):(jV x_ c_).bC (fun _=>True):=by
 refine Sk.aR _ ?_
 unfold jV
 simp only [Sk.ju,Sk.aI,reduceCtorEq,ON,kk,kp,iH,aV,lV,ub,maxLen]
 obtain ⟨⟨h1,h2,h3,h4⟩,h5,h6⟩:=hx
 have h7:=h5 x_.s.file.toNat (by omega)
 have hx:x_.zK:=⟨⟨h1,h2,h3,h4⟩,h5,h6⟩
 all_goals (repeat' first | exact hx | exact h7.1 | exact h7.2 | assumption | (with_reducible apply And.intro) | (intro h))
 all_goals try simp only [LN] at *
 all_goals first | trivial | assumption | omega | (rw [aA (by omega) (by omega)]; omega)
def CJ x_ c_:=kk tok mixed Tryz.func22 [av x_.cells,av c_.cells,iv 6] (fun x=>iv x) true (jV x_ c_) (wM x_ c_) (Bq x_ c_)
def cN (x_:cx) (c_:Claim) (ch:Int):Int:=match ch.toNat with
 | 0=>wG x_ c_
 | 1=>wH x_ c_
 | 2=>wI x_ c_
 | 3=>wJ x_ c_
 | 4=>wK x_ c_
 | 5=>wL x_ c_
 | _=>wM x_ c_
theorem ET (x_:cx) (c_:Claim) (ch:Int) (h:0≤ch∧ch < 7∧x_.zK):gR Tryz.prog 22 [av x_.cells,av c_.cells,iv ch] [] (iv (cN x_ c_ ch)) []:=by
 have hk:ch=0∨ch=1∨ch=2∨ch=3∨ch=4∨ch=5∨ch=6:=by omega
 rcases hk with rfl | rfl | rfl | rfl | rfl | rfl | rfl
 ·exact (CD x_ c_).pf h.2.2
 ·exact (CE x_ c_).pf h.2.2
 ·exact (CF x_ c_).pf h.2.2
 ·exact (CG x_ c_).pf h.2.2
 ·exact (CH x_ c_).pf h.2.2
 ·exact (CI x_ c_).pf h.2.2
 ·exact (CJ x_ c_).pf h.2.2
def sn (x_:cx) (c_:Claim) (ch:Int):il (Int):=⟨Tryz.prog,22,[av x_.cells,av c_.cells,iv ch],fun x=>iv x,true,cN x_ c_ ch,0≤ch∧ch < 7∧x_.zK,fun h=>ET x_ c_ ch h,fun _=>True,trivial⟩
def xJ (x_:Int):Sk (Int) :=
 .br (x_ == 0)
 (.fin 1)
 (.br (x_ == 1)
 (.fin 0)
 (.fin 2))
def kL x_:=(xJ x_).val
theorem U1 (x_:Int):(xJ x_).bC (fun _=>True):=by
 unfold xJ
 exact qT
def AI x_:=kk tok mixed Tryz.func21 [iv x_] (fun x=>iv x) true (xJ x_) (kL x_) (u0 (U1 x_))
theorem Ia {α:Type} (k k':Int) (v:α):∀ (m:List (Int × α)),nK (nC m k v) k'=if k'=k then some v else nK m k'
 | []=>by
  by_cases h:k'=k
  ·simp [nC,nK,h]
  ·have e:(k' == k)=false:=by simpa using h
   simp [nC,nK,h,e]
 | p :: r=>by
  by_cases c:k=p.1
  ·have e:(k == p.1)=true:=by simpa using c
   simp only [nC,e,cond_true,nK]
   by_cases h:k'=p.1
   ·have e':(k' == p.1)=true:=by simpa using h
    simp [e',h,c]
   ·have e':(k' == p.1)=false:=by simpa using h
    simp [e',h,c]
  ·have e:(k == p.1)=false:=by simpa using c
   simp only [nC,e,cond_false,nK,Ia k k' v r]
   by_cases h:k'=p.1
   ·have e':(k' == p.1)=true:=by simpa using h
    have hk:¬ k'=k:=fun x=>c (x ▸ h)
    simp [e',hk]
   ·have e':(k' == p.1)=false:=by simpa using h
    simp [e']
theorem U2 (k k':Int) (m:List (Int × Bool)):cT (nC m k true) k' false=if k'=k then true else cT m k' false:=by
 unfold cT
 rw [Ia]
 split <;> rfl
theorem abG (aq:List cS) (l:List Move) (s:Int × List Int × List (Int × Bool)) (i:Nat) (h:i < l.length):(ly aq l s).1.getD i default=(Jt aq (ly aq (l.take i) s).2 (l.getD i default)).1:=by
 have e:l=l.take (i+1)++l.drop (i+1):=(List.take_append_drop _ _).symm
 have hl:(ly aq (l.take i) s).1.length=i:=by rw [L1,List.length_take]; omega
 rw [congrArg (fun z=>(ly aq z s).1) e,BZ,Hf aq l i h]
 simp only [List.getD]
 rw [List.getElem?_append_left (by simp [hl]),List.getElem?_append_right (by omega),hl]
 simp
structure aiF (n:Nat) (s s':Int × List Int × List (Int × Bool)):Prop where
 day:s'.1≤s.1
 len:n < s.2.1.length
 ai2:n < s'.2.1.length
 st:s'.2.1.getD n default=s.2.1.getD n default
 ap:cT s'.2.2 (n:Int) false=cT s.2.2 (n:Int) false
theorem aeL (aq:List cS) (l:List Move):(ly aq l (u1 aq)).2.2.1.length=aq.length:=by
 rw [II]; simp [u1]
theorem abH {aq:List cS} {m:Move} {day:Int} {st:List Int} {ap:List (Int × Bool)} (h:(uM aq m day st ap).1=0) (k:m.kind=1):0≤m.no∧m.no < 7:=by
 unfold uM at h
 split at h
 ·cases h
 omega
def xK (aq:List cS) (az:List Move) (aL:Int):Int × List Int × List Int × Bool:=Ad aL ((aq.getD aL.toNat default).kind == 1) az (ly aq az (u1 aq)).1 az.length
theorem acR (aq:List cS) (az:List Move) (aL:Int) (w:Bool) (n:Nat):n≤az.length→(∀ d,d∈(Ad aL w az (ly aq az (u1 aq)).1 n).2.1→0≤d∧d < 7)∧∀ d,d∈(Ad aL w az (ly aq az (u1 aq)).1 n).2.2.1→0≤d∧d < 7:=by
 induction n with
 | zero=>exact fun _=>⟨fun d h=>by simp [Ad] at h,fun d h=>by simp [Ad] at h⟩
 | succ n ih =>
  intro hn
  obtain ⟨i1,i2⟩:=ih (by omega)
  simp only [Ad]
  unfold nh
  split
  ·exact ⟨i1,i2⟩
  rename_i h1
  split
  ·rename_i h2
   refine ⟨i1,fun d hd=>?_⟩
   rcases List.mem_append.1 hd with hd | hd
   ·exact i2 d hd
   ·rw [List.mem_singleton.1 hd]
    have he:(ly aq az (u1 aq)).1.getD n default=0:=by
     by_cases q:(ly aq az (u1 aq)).1.getD n default=0
     ·exact q
     ·exact absurd (.inl q) h1
    rw [abG aq az _ n (by omega)] at he
    exact abH he h2
  split
  ·exact ⟨i1,i2⟩
  split
  ·exact ⟨fun d hd=>i2 d (List.mem_filter.1 hd).1,i2⟩
  ·exact ⟨i1,i2⟩
def awf (x:cx) (c:Claim) (st d:Int):Int:=dN st (kL (dN (cN x c d) (kL (fj x 5 c d))))
def zL (x:cx) (c:Claim) (D:List Int):Int:=D.foldl (awf x c) c.state
def I3 (x:cx) (D:List Int) (bm:List (Int × Int) × List (Int × Bool)) (c:Claim):List (Int × Int) × List (Int × Bool) :=
 if c.bL=x.s.cW∧c.aH=x.s.cV∧c.sign=x.s.sign then (nC bm.1 (zL x c D) (bX (cT bm.1 (zL x c D) 0) c.sum),nC bm.2 (zL x c D) true) else bm
def dx (x:cx) (D:List Int) (l:List Claim):Nat→List (Int × Int) × List (Int × Bool)
 | 0=>([],[])
 | n+1=>I3 x D (dx x D l n) (l.getD n default)
def sD (aL cur:Int) (bm:List (Int × Int) × List (Int × Bool)):vY :=
 if cT bm.2 1 false=true then { aL:=aL,sum:=cT bm.1 1 0,au:=cur,state:=1 } else if cT bm.2 2 false=true then { aL:=aL,sum:=cT bm.1 2 0,au:=cur,state:=2 } else { aL:=aL,sum:=0,au:=cur,state:=0 }
def xL (r:ah) (files:List ak) (s:cS) (day:Int):cx:={ r:=r,forum:=s.forum,day:=day,files:=files,s:=s }
def awT (r:ah) (files:List ak) (s:cS) (aL day:Int) (D:List Int):vY :=
 sD aL (files.getD s.file.toNat default).aU.au (dx (xL r files s day) D (cG r s.forum (files.getD s.file.toNat default) day) (cG r s.forum (files.getD s.file.toNat default) day).length)
def pP (r:ah) (files:List ak) (aq:List cS) (az:List Move) (aL:Int):Sk (vY × Int) :=
 .r 1 ((iQ r files aq az).c) fun x1 =>
 .br (x1 != 0)
 (.fin (({ aL:=0,sum:=0,au:=0,state:=0 }:vY),x1))
 (.r 4 ((eW aL ((aq.length:Nat):Int)).c) fun x2 =>
 .br (!x2)
 (.fin (({ aL:=0,sum:=0,au:=0,state:=0 }:vY),4))
 (.r 6 ((sK aq az).c) fun x3 =>
 .r 7 (.p (bU aL x3.1.length)) fun _ =>
 .br ((x3.1.getD aL.toNat default) != 3)
 (.fin (({ aL:=0,sum:=0,au:=0,state:=0 }:vY),7))
 (.r 9 (.p (bU aL aq.length)) fun _ =>
 .r 10 ((uw (aq.getD aL.toNat default) aL az x3.2).c) fun x4 =>
 .r 12 (.o [.aZ (sx dI)]) fun _ =>
 .r 13 (.o [.aZ (sx dB)]) fun _ =>
 .r 14 (.aj (.p (bU ((aq.getD aL.toNat default).file) files.length)) ((oj r ((aq.getD aL.toNat default).forum) (files.getD (((aq.getD aL.toNat default).file).toNat) default) x4.1).c)) fun x5 =>
 .bind true (fun b6=>dx ({ r:=r,forum:=(aq.getD aL.toNat default).forum,day:=x4.1,files:=files,s:=aq.getD aL.toNat default }:cx) x4.2 x5 x5.length=(b6.1,b6.2))
 (.loop (default:Sum (vY × Int) ((List (Int × Int)) × (List (Int × Bool)))) (fun i7=>i7.1≤x5.length∧dx ({ r:=r,forum:=(aq.getD aL.toNat default).forum,day:=x4.1,files:=files,s:=aq.getD aL.toNat default }:cx) x4.2 x5 i7.1=(i7.2.1,i7.2.2)) (fun i7=>x5.length - i7.1) ((0,([]:List (Int × Int)),([]:List (Int × Bool))):Nat × (List (Int × Int)) × (List (Int × Bool)))
 (fun (i7:Nat × (List (Int × Int)) × (List (Int × Bool)))=>⟨[(88,iv (i7.1:Int))],[(75,SN dI i7.2.1),(76,SN dB i7.2.2)]⟩) fun i7 =>
 .lt 86 0 i7.1 x5.length
 (.bind true (fun b8=>(b8.1,b8.2)=I3 ({ r:=r,forum:=(aq.getD aL.toNat default).forum,day:=x4.1,files:=files,s:=aq.getD aL.toNat default }:cx) x4.2 (i7.2.1,i7.2.2) (x5.getD i7.1 default))
 (.r 16 (.p (bU (i7.1:Int) x5.length)) fun _ =>
 .br (((((x5.getD i7.1 default).bL) != ((aq.getD aL.toNat default).cW))||(((x5.getD i7.1 default).aH) != ((aq.getD aL.toNat default).cV)))||(((x5.getD i7.1 default).sign) != ((aq.getD aL.toNat default).sign)))
 (.fin (.inr (i7.2.1,i7.2.2)))
 (.bind true (fun b9=>b9.1=zL ({ r:=r,forum:=(aq.getD aL.toNat default).forum,day:=x4.1,files:=files,s:=aq.getD aL.toNat default }:cx) (x5.getD i7.1 default) x4.2)
 (.loop (default:Sum (Sum (Sum (Sum (vY × Int) ((List (Int × Int)) × (List (Int × Bool)))) (Nat × (List (Int × Int)) × (List (Int × Bool)))) ((List (Int × Int)) × (List (Int × Bool)))) (Int × Int)) (fun i10=>i10.2≤x4.2.length∧i10.1=(x4.2.take i10.2).foldl (awf ({ r:=r,forum:=(aq.getD aL.toNat default).forum,day:=x4.1,files:=files,s:=aq.getD aL.toNat default }:cx) (x5.getD i7.1 default)) (x5.getD i7.1 default).state) (fun i10=>x4.2.length - i10.2) (((x5.getD i7.1 default).state,0):Int × Nat)
 (fun (i10:Int × Nat)=>⟨[(23,iv i10.1),(115,iv (i10.2:Int))],[]⟩) fun i10 =>
 .lt 17 0 i10.2 x4.2.length
 (.r 21 (.p (bU (i10.2:Int) x4.2.length)) fun _ =>
 .r 22 (.dep ((sn ({ r:=r,forum:=(aq.getD aL.toNat default).forum,day:=x4.1,files:=files,s:=aq.getD aL.toNat default }:cx) (x5.getD i7.1 default) (x4.2.getD i10.2 default)).c) fun x11=>.dep ((lV ({ r:=r,forum:=(aq.getD aL.toNat default).forum,day:=x4.1,files:=files,s:=aq.getD aL.toNat default }:cx) 5 (x5.getD i7.1 default) (x4.2.getD i10.2 default)).c) fun x12=>.dep ((AI x12).c) fun Ka=>.dep ((iH x11 Ka).c) fun x14=>.dep ((AI x14).c) fun x15=>(iH i10.1 x15).c) fun p17 =>
 .nx 23 115 i10.2 (p17.2.2.2.2.2,i10.2+1))
 (.fin (.inl (.inr (i10.1,(i10.2:Int))))))
 (fun (b9:Int × Int)=>⟨[(23,iv b9.1),(115,iv b9.2)],[]⟩) fun b9 =>
 .r 24 (.aj (.aj (.t (pv dI i7.2.1)) (.o [.cast 139 (getM dI i7.2.1 b9.1 (0:Int))])) (.aj (.aj (.t (pv dI i7.2.1)) (.o [.aZ (Ws dI i7.2.1 b9.1 (bX (cT i7.2.1 b9.1 (0:Int)) ((x5.getD i7.1 default).sum)))])) (.aj (.t (pv dB i7.2.2)) (.o [.aZ (Ws dB i7.2.2 b9.1 true)])))) fun _ =>
 .fin (.inr (nC i7.2.1 b9.1 (bX (cT i7.2.1 b9.1 (0:Int)) ((x5.getD i7.1 default).sum)),nC i7.2.2 b9.1 true))))
 (fun (b8:(List (Int × Int)) × (List (Int × Bool)))=>⟨[],[(75,SN dI b8.1),(76,SN dB b8.2)]⟩) fun b8 =>
 .nx 25 88 i7.1 (i7.1+1,b8.1,b8.2))
 (.fin (.inl (.inr (i7.2.1,i7.2.2)))))
 (fun (b6:(List (Int × Int)) × (List (Int × Bool)))=>⟨[],[(75,SN dI b6.1),(76,SN dB b6.2)]⟩) fun b6 =>
 .r 26 (.p (bU ((aq.getD aL.toNat default).file) files.length)) fun _ =>
 .r 27 (.o [.eG (fm dm [1,2])]) fun _ =>
 .bind true (fun b18=>cT b6.2 1 false=false∧cT b6.2 2 false=false)
 (.loop (default:Sum (vY × Int) (Unit)) (fun i19=>i19≤2∧(0 < i19→cT b6.2 1 false=false)∧(1 < i19→cT b6.2 2 false=false)) (fun i19=>[1,2].length - i19) (0:Nat)
 (fun (i19:Nat)=>⟨[(155,iv (i19:Int))],[]⟩) fun i19 =>
 .lt 153 0 i19 ([1,2].length)
 (.r 29 (.aj (.p (bU (i19:Int) ([1,2].length))) (.p (i19 < [1,2].length))) fun _ =>
 .r 30 (.aj (.t (pv dB b6.2)) (.o [.cast 161 (getM dB b6.2 ([1,2].getD i19 default) false)])) fun _ =>
 .br (cT b6.2 ([1,2].getD i19 default) false)
 (.r 31 (.aj (.t (pv dI b6.1)) (.o [.cast 165 (getM dI b6.1 ([1,2].getD i19 default) (0:Int))])) fun _ =>
 .fin (.inl (.inl (({ aL:=aL,sum:=cT b6.1 ([1,2].getD i19 default) (0:Int),au:=((files.getD (((aq.getD aL.toNat default).file).toNat) default).aU).au,state:=[1,2].getD i19 default }:vY),0))))
 (.nx 33 155 i19 (i19+1)))
 (.fin (.inl (.inr ()))))
 (fun (_:Unit)=>⟨[],[]⟩) fun _ =>
 .fin (({ aL:=aL,sum:=0,au:=((files.getD (((aq.getD aL.toNat default).file).toNat) default).aU).au,state:=0 }:vY),0))))
def AJ r files aq az aL:=(pP r files aq az aL).val
theorem CK (r:ah) (files:List ak) (aq:List cS) (az:List Move) (aL:Int):(pP r files aq az aL).dj (fun (x:vY × Int)=>nP r files aq az=0→(0≤aL∧aL < aq.length)→(ly aq az (u1 aq)).2.2.1.getD aL.toNat default=3→x=(awT r files (aq.getD aL.toNat default) aL (xK aq az aL).1 (xK aq az aL).2.1,0)):=by
 refine Sk.bz _ ?_
 unfold pP
 simp only [Sk.de,Sk.aI,reduceCtorEq,ON,kk,kp,iH,oj,iQ,sK,lV,sn,eW,uw,AI,qG,forall_eq,maxLen]
 generalize hR:L2 aq az=x3
 generalize hJ:xX (aq.getD aL.toNat default) aL az x3.2=x4
 generalize hL:cG r (aq.getD aL.toNat default).forum (files.getD (aq.getD aL.toNat default).file.toNat default) x4.1=x5
 generalize hs:aq.getD aL.toNat default=s
 generalize hX:({ r:=r,forum:=s.forum,day:=x4.1,files:=files,s:=s }:cx)=X
 simp only [LN]
 refine fun _=>⟨fun h1 h2=>absurd h2 h1,fun h1=>⟨fun h2 _ h3=>absurd h3 (by omega),fun h2 h3 _=>⟨fun h4 _ _ h5=>absurd (by rw [h3]; exact h5) h4,fun h4 _ h5 _ _ _=>?_⟩⟩⟩
 have e1:(xK aq az aL).1=x4.1:=by rw [h5,h3]; unfold xK; rw [hs]
 have e2:(xK aq az aL).2.1=x4.2:=by rw [h5,h3]; unfold xK; rw [hs]
 have hA:awT r files s aL (xK aq az aL).1 (xK aq az aL).2.1=sD aL (files.getD s.file.toNat default).aU.au (dx X x4.2 x5 x5.length):=by
  rw [e1,e2]; unfold awT xL; rw [hX]; rw [hs] at hL; rw [hL]
 rw [hA]
 have hXs:X.s=s:=by rw [← hX]
 refine ⟨⟨⟨Nat.zero_le _,rfl⟩,fun i hi=>⟨fun hc=>⟨fun _=>⟨fun h=>?_,fun h=>⟨⟨⟨Nat.zero_le _,rfl⟩,fun j hj=>⟨fun hd _ _=>⟨⟨by omega,?_⟩,by omega⟩,fun hd=>?_⟩⟩,fun b hb _=>?_⟩⟩,fun b _ hb _=>⟨⟨by omega,?_⟩,by omega⟩⟩,fun hc=>?_⟩⟩,fun b hb _ _=>⟨⟨⟨by omega,fun q=>absurd q (by omega),fun q=>absurd q (by omega)⟩,fun i hi=>⟨fun hc _ _=>⟨fun hm _ _ _ _=>?_,fun hm _=>⟨⟨by omega,fun _=>?_,fun _=>?_⟩,by omega⟩⟩,fun hc=>⟨hi.2.1 (by omega),hi.2.2 (by omega)⟩⟩⟩,fun _ hn _ _ _=>?_⟩⟩
 ·unfold I3; rw [hXs,if_neg (fun q=>h.elim (fun a=>a.elim (fun a=>a q.1) (fun a=>a q.2.1)) (fun a=>a q.2.2))]
 ·rw [qV (by omega),List.foldl_append,← hj.2]; rfl
 ·rw [hj.2,List.take_of_length_le (by omega)]; rfl
 ·unfold I3; rw [hXs,if_pos ⟨h.1.1,h.1.2,h.2⟩,hb]
 ·simp only [dx]; rw [hi.2]; exact hb.symm
 ·have e:i.1=x5.length:=by omega
  have:=hi.2
  rwa [e] at this
 ·rw [hb]
  unfold sD
  have hk:i=0∨i=1:=by omega
  rcases hk with rfl | rfl
  ·have Bt:cT b.2 1 false=true:=hm
   rw [if_pos Bt]; rfl
  ·have Bt:cT b.2 2 false=true:=hm
   rw [if_neg (by rw [hi.2.1 (by omega)]; simp),if_pos Bt]; rfl
 ·by_cases h0:0 < i
  ·exact hi.2.1 h0
  ·have:i=0:=by omega
   subst this; exact hm
 ·have hk:i=1∨1 < i:=by omega
  rcases hk with rfl | h0
  ·exact hm
  ·exact hi.2.2 h0
 ·rw [hb]; unfold sD; rw [if_neg (by rw [hn.1]; simp),if_neg (by rw [hn.2]; simp)]
theorem Ko (r:ah) (files:List ak) (aq:List cS) (az:List Move) (aL:Int):(fun (x:vY × Int)=>nP r files aq az=0→(0≤aL∧aL < aq.length)→(ly aq az (u1 aq)).2.2.1.getD aL.toNat default=3→x=(awT r files (aq.getD aL.toNat default) aL (xK aq az aL).1 (xK aq az aL).2.1,0)) (AJ r files aq az aL):=have h:=Sk.dk _ (CK r files aq az aL); h
theorem Ps (r:ah) (files:List ak) (aq:List cS) (az:List Move) (aL:Int) (hr:r.Small) (hb:r.cj) (hfi:r.im) (hra:r.dg) (hl:r.bu.length≤200) (hf:files.length≤50→∀ q,q < files.length→(files.getD q default).Small):(pP r files aq az aL).bC (fun _=>True):=by
 refine Sk.aR _ ?_
 unfold pP
 simp only [Sk.ju,Sk.aI,reduceCtorEq,ON,kk,kp,iH,oj,iQ,sK,lV,sn,eW,uw,AI,qG,forall_eq,maxLen]
 generalize hR:L2 aq az=x3
 generalize hJ:xX (aq.getD aL.toNat default) aL az x3.2=x4
 generalize hL:cG r (aq.getD aL.toNat default).forum (files.getD (aq.getD aL.toNat default).file.toNat default) x4.1=x5
 generalize hs:aq.getD aL.toNat default=s
 generalize hX:({ r:=r,forum:=s.forum,day:=x4.1,files:=files,s:=s }:cx)=X
 simp only [LN]
 refine ⟨hr,fun hck h1 h2=>?_⟩
 obtain ⟨⟨c1,c2,c3⟩,c4,c5⟩:=hck.1 h1
 refine ⟨⟨by omega,by omega⟩,fun h3=>?_⟩
 have ai3:x3.1.length=aq.length:=by rw [h3]; exact aeL aq az
 have aih:x3.2.length=az.length:=by rw [h3]; exact L1 _ _ _
 have hXs:X.s=s:=by rw [← hX]
 have hS:sM r files.length s:=by rw [← hs]; exact c5 aL.toNat (by omega)
 have abI:0≤s.file∧s.file < (files.length:Int):=by unfold sM at hS; omega
 have hF:∀ q,q < files.length→(files.getD q default).Small∧cb r (files.getD q default):=fun q hq=>⟨hf c1 q hq,(lE r _ hl (c4 q hq)).1⟩
 have hXf:X.zK:=by rw [← hX]; exact ⟨⟨hr,hb,hfi,hra⟩,hF,abI⟩
 have hs7:=hF s.file.toNat (by omega)
 refine ⟨⟨by omega,by omega⟩,fun _ h4=>⟨⟨by omega,by omega⟩,fun _=>⟨⟨aih,by omega⟩,fun h5 _ _=>?_⟩⟩⟩
 have hD:∀ k,k < x4.2.length→0≤x4.2.getD k default∧x4.2.getD k default < 7:=by
  intro k hk
  have h:=(acR aq az aL (s.kind == 1) az.length (Nat.le_refl _)).1
  have e:x4.2=(Ad aL (s.kind == 1) az (ly aq az (u1 aq)).1 az.length).2.1:=by rw [h5,h3]
  rw [← e] at h
  refine h _ ?_
  rw [List.getD_eq_getElem?_getD,List.getElem?_eq_getElem hk]
  exact List.getElem_mem _
 have wi:∀ n m:Nat,n < m→m≤9223372036854775807→ar ((n:Int)+1)=((n+1:Nat):Int):=fun n m h h0=>by rw [aA (by omega) (by omega)]; omega
 refine ⟨⟨⟨by omega,by omega⟩,hs7.2,hs7.1,hb,hr,hfi,hra⟩,fun _=>⟨⟨⟨Nat.zero_le _,rfl⟩,fun i hi hm=>⟨fun hc=>⟨⟨⟨by omega,by omega⟩,fun _=>⟨fun h=>?_,fun h=>⟨⟨⟨Nat.zero_le _,rfl⟩,fun j hj hm2=>⟨fun hd=>⟨⟨by omega,by omega⟩,fun _=>⟨⟨⟨(hD _ (by omega)).1,(hD _ (by omega)).2,hXf⟩,hXf⟩,fun _=>⟨wi _ _ (by omega) hm2,⟨by omega,?_⟩,by omega⟩⟩⟩,fun hd=>?_⟩⟩,fun b hb _=>?_⟩⟩⟩,fun b _ hb _=>⟨wi _ _ (by omega) hm,⟨by omega,?_⟩,by omega⟩⟩,fun hc=>?_⟩⟩,fun b hb=>⟨⟨by omega,by omega⟩,fun _ _=>⟨⟨by omega,fun q=>absurd q (by omega),fun q=>absurd q (by omega)⟩,fun i hi _=>⟨fun hc=>⟨⟨⟨by omega,by omega⟩,by omega⟩,fun _ _ hm _=>⟨wi _ 2 (by omega) (by omega),⟨by omega,fun _=>?_,fun _=>?_⟩,by omega⟩⟩,fun hc=>⟨hi.2.1 (by omega),hi.2.2 (by omega)⟩⟩⟩⟩⟩⟩
 ·unfold I3; rw [hXs,if_neg (fun q=>h.elim (fun a=>a.elim (fun a=>a q.1) (fun a=>a q.2.1)) (fun a=>a q.2.2))]
 ·rw [qV (by omega),List.foldl_append,← hj.2]; rfl
 ·rw [hj.2,List.take_of_length_le (by omega)]; rfl
 ·unfold I3; rw [hXs,if_pos ⟨h.1.1,h.1.2,h.2⟩,hb]
 ·simp only [dx]; rw [hi.2]; exact hb.symm
 ·have e:i.1=x5.length:=by omega
  have:=hi.2
  rwa [e] at this
 ·by_cases h0:0 < i
  ·exact hi.2.1 h0
  ·have:i=0:=by omega
   subst this; exact hm
 ·have hk:i=1∨1 < i:=by omega
  rcases hk with rfl | h0
  ·exact hm
  ·exact hi.2.2 h0
def pg r files aq az aL:=kp tok mixed Tryz.func8 [av r.cells,lv ak.cells files,lv cS.cells aq,lv Move.cells az,iv aL] (fun x=>.fD [av x.1.cells,iv x.2]) true (AJ r files aq az aL) (u6 (Ps r files aq az aL)) (CK r files aq az aL)
def vl:Sk (Bool) :=
 .r 1 (.o [.eG (fm cS.E [({ forum:=0,cV:=0,cW:=0,file:=0,sign:=0,day:=5,kind:=0 }:cS),({ forum:=0,cV:=0,cW:=0,file:=0,sign:=0,day:=9,kind:=0 }:cS)])]) fun _ =>
 .fz 12 <|
 .r 2 (.aj (.aj (.o [.pur 20]) (.o [.eG (fm Move.E [({ kind:=0,aL:=0,day:=5,no:=0 }:Move),({ kind:=2,aL:=0,day:=6,no:=0 }:Move),({ kind:=4,aL:=0,day:=7,no:=0 }:Move),({ kind:=3,aL:=0,day:=8,no:=0 }:Move),({ kind:=4,aL:=0,day:=9,no:=0 }:Move)])])) ((sK [({ forum:=0,cV:=0,cW:=0,file:=0,sign:=0,day:=5,kind:=0 }:cS),({ forum:=0,cV:=0,cW:=0,file:=0,sign:=0,day:=9,kind:=0 }:cS)] [({ kind:=0,aL:=0,day:=5,no:=0 }:Move),({ kind:=2,aL:=0,day:=6,no:=0 }:Move),({ kind:=4,aL:=0,day:=7,no:=0 }:Move),({ kind:=3,aL:=0,day:=8,no:=0 }:Move),({ kind:=4,aL:=0,day:=9,no:=0 }:Move)]).c)) fun x1 =>
 .r 3 (.aj (.aj (.o [.pur 31]) (.o [.eG (fm Move.E [({ kind:=0,aL:=1,day:=8,no:=0 }:Move),({ kind:=0,aL:=1,day:=9,no:=0 }:Move),({ kind:=0,aL:=0,day:=6,no:=0 }:Move),({ kind:=6,aL:=1,day:=10,no:=0 }:Move),({ kind:=5,aL:=1,day:=11,no:=0 }:Move)])])) ((sK [({ forum:=0,cV:=0,cW:=0,file:=0,sign:=0,day:=5,kind:=0 }:cS),({ forum:=0,cV:=0,cW:=0,file:=0,sign:=0,day:=9,kind:=0 }:cS)] [({ kind:=0,aL:=1,day:=8,no:=0 }:Move),({ kind:=0,aL:=1,day:=9,no:=0 }:Move),({ kind:=0,aL:=0,day:=6,no:=0 }:Move),({ kind:=6,aL:=1,day:=10,no:=0 }:Move),({ kind:=5,aL:=1,day:=11,no:=0 }:Move)]).c)) fun x2 =>
 .r 4 (.aj (.o [.eG (fm dm [3,0])]) (.dep ((vX x1.1 [3,0]).c) fun x3=>.aj (.wh x3 true (.o [.eG (fm dm [0,0,7,0,0])])) (.wh x3 true ((sL x1.2 [0,0,7,0,0]).c)))) fun NW =>
 .r 5 (.aj (.o [.eG (fm dm [0,5])]) (.dep ((vX x2.1 [0,5]).c) fun x5=>.aj (.wh x5 true (.o [.eG (fm dm [13,0,13,0,7])])) (.wh x5 true ((sL x2.2 [13,0,13,0,7]).c)))) fun p9 =>
 .r 6 (((((((((((((pg ({ cz:=[],aN:=[],gh:=[],bu:=[],aE:=[],bg:=[],bV:=[],eR:=[] }:ah) [] [] [] 0).ov 0 0 _ rfl ⟨_,rfl⟩).ov 0 1 _ rfl ⟨_,rfl⟩).ov 0 2 _ rfl ⟨_,rfl⟩).ov 0 3 _ rfl ⟨_,rfl⟩).ov 0 4 _ rfl ⟨_,rfl⟩).ov 0 5 _ rfl ⟨_,rfl⟩).ov 0 6 _ rfl ⟨_,rfl⟩).ov 0 7 _ rfl ⟨_,rfl⟩).nil 1 ⟨_,rfl⟩).nil 2 ⟨_,rfl⟩).nil 3 ⟨_,rfl⟩).c) fun x7 =>
 .r 7 (.wh (((NW.1&&NW.2)&&(p9.1&&p9.2))&&(x7.2 == 4)) true ((((((((((((iQ ({ cz:=[],aN:=[],gh:=[],bu:=[],aE:=[],bg:=[],bV:=[],eR:=[] }:ah) [] [({ forum:=0,cV:=0,cW:=0,file:=0,sign:=0,day:=5,kind:=0 }:cS),({ forum:=0,cV:=0,cW:=0,file:=0,sign:=0,day:=9,kind:=0 }:cS)] []).ov 0 0 _ rfl ⟨_,rfl⟩).ov 0 1 _ rfl ⟨_,rfl⟩).ov 0 2 _ rfl ⟨_,rfl⟩).ov 0 3 _ rfl ⟨_,rfl⟩).ov 0 4 _ rfl ⟨_,rfl⟩).ov 0 5 _ rfl ⟨_,rfl⟩).ov 0 6 _ rfl ⟨_,rfl⟩).ov 0 7 _ rfl ⟨_,rfl⟩).nil 1 ⟨_,rfl⟩).nil 3 ⟨_,rfl⟩).c)) fun x8 =>
 .fin ((((NW.1&&NW.2)&&(p9.1&&p9.2))&&(x7.2 == 4))&&(x8 == 1))
def Ib:Bool:=(vl).val
theorem Np:(fun (x:Bool)=>x=true) (Ib):=(show Ib=true by kernel_rfl)
theorem Si:(vl).bC (fun _=>True):=by
 unfold vl
 try simp only [sL,vX,pg,iQ,sK,ak.Small,ah.Small,ah.cj,ah.im,ah.dg]
 exact mA
def CM:il (Bool):=kk tok mixed Tryz.func4 [] (fun x=>bv x) true (vl) (Ib) (fun (_:True)=>Si) (fun (x:Bool)=>x=true) (Np)
def wN (r:ah):Sk (Bool) :=
 .bt
 (.loop (default:Sum (Bool) (Unit)) (fun i2=>i2≤r.aN.length) (fun i2=>r.aN.length - i2) (0:Nat)
 (fun (i2:Nat)=>⟨[(3,iv (i2:Int))],[]⟩) fun i2 =>
 .GJ 1 1 r.aN.length <|
 .br ((decide ((i2:Int) < ((r.aN.length:Nat):Int)))&&(decide ((i2:Int) < 50)))
 (.r 4 (.aj (.p (bU (i2:Int) r.aN.length)) (.aj (.wh (decide (((((r.aN.getD i2 default).gT).length:Nat):Int) > 70)) false (.p (bU (i2:Int) r.aN.length))) (.wh ((decide (((((r.aN.getD i2 default).gT).length:Nat):Int) > 70))||(decide (((((r.aN.getD i2 default).shut).length:Nat):Int) > 210))) false (.p (bU (i2:Int) r.aN.length))))) fun _ =>
 .br (((decide (((((r.aN.getD i2 default).gT).length:Nat):Int) > 70))||(decide (((((r.aN.getD i2 default).shut).length:Nat):Int) > 210)))||(decide (((((r.aN.getD i2 default).rest).length:Nat):Int) > 8)))
 (.fin (.inl (.inl false)))
 (.nx 3 3 i2 (i2+1)))
 (.fin (.inl (.inr ()))))
 (fun (_:Unit)=>⟨[],[]⟩) fun _ =>
 .bind true (fun b3=>∀ k,k < r.aE.length→k < 50→(r.aE.getD k default).ba.length≤40∧(r.aE.getD k default).rules.length≤40)
 (.loop (default:Sum (Bool) (Unit)) (fun i4=>(∀ k,k < i4→(r.aE.getD k default).ba.length≤40∧(r.aE.getD k default).rules.length≤40)∧i4≤r.aE.length) (fun i4=>r.aE.length - i4) (0:Nat)
 (fun (i4:Nat)=>⟨[(4,iv (i4:Int))],[]⟩) fun i4 =>
 .GJ 1 4 r.aE.length <|
 .br ((decide ((i4:Int) < ((r.aE.length:Nat):Int)))&&(decide ((i4:Int) < 50)))
 (.r 9 (.aj (.p (bU (i4:Int) r.aE.length)) (.wh (decide (((((r.aE.getD i4 default).ba).length:Nat):Int) > 40)) false (.p (bU (i4:Int) r.aE.length)))) fun _ =>
 .br ((decide (((((r.aE.getD i4 default).ba).length:Nat):Int) > 40))||(decide (((((r.aE.getD i4 default).rules).length:Nat):Int) > 40)))
 (.fin (.inl (.inl false)))
 (.nx 8 4 i4 (i4+1)))
 (.fin (.inl (.inr ()))))
 (fun (_:Unit)=>⟨[],[]⟩) fun _ =>
 .fin ((((((((decide (((r.cz.length:Nat):Int) < 50))&&(decide (((r.aN.length:Nat):Int) < 50)))&&(decide (((r.gh.length:Nat):Int) < 50)))&&(decide (((r.bu.length:Nat):Int) < 210)))&&(decide (((r.aE.length:Nat):Int) < 50)))&&(decide (((r.bg.length:Nat):Int) < 110)))&&(decide (((r.bV.length:Nat):Int) < 110)))&&(decide (((r.eR.length:Nat):Int) < 50)))
def acS r:=(wN r).val
theorem U3 (r:ah):(wN r).dj (fun (x:Bool)=>x=true→r.Small):=by
 unfold wN
 try simp only [ak.Small,ah.Small]
 exact Fz
theorem WZ (r:ah):(wN r).bC (fun _=>True):=by
 unfold wN
 try simp only [ak.Small,ah.Small]
 exact mA
def Ic r:=kp tok mixed Tryz.func48 [av r.cells] (fun x=>bv x) true (acS r) (u0 (WZ r)) (U3 r)
def wO (f:ak):Sk (Bool) :=
 .fin ((((decide (((f.af.length:Nat):Int)≤50))&&(decide (((f.bn.length:Nat):Int)≤10)))&&(decide (((f.aw.length:Nat):Int)≤110)))&&(decide (((f.facts.length:Nat):Int)≤220)))
def Yk f:=(wO f).val
theorem Nq (f:ak):Yk f=((((decide (((f.af.length:Nat):Int)≤50))&&(decide (((f.bn.length:Nat):Int)≤10)))&&(decide (((f.aw.length:Nat):Int)≤110)))&&(decide (((f.facts.length:Nat):Int)≤220))):=rfl
theorem U4 (f:ak):(wO f).dj (fun (x:Bool)=>x=true→f.Small):=by
 unfold wO
 try simp only [ak.Small,ah.Small]
 exact Fz
theorem W6 (f:ak):(wO f).bC (fun _=>True):=by
 unfold wO
 try simp only [ak.Small,ah.Small]
 exact qT
def Ie f:=kp tok mixed Tryz.func49 [av f.cells] (fun x=>bv x) true (Yk f) (u0 (W6 f)) (U4 f)
def I4 (rv:Term→Int→Int→Int) (rp:Term→Int→Int→Prop) (rf:∀ (t:Term) (n:Int) (levels:Int),rp t n levels→gR Tryz.prog 110 [av t.cells,iv n,iv levels] [] (iv (rv t n levels)) []) (t:Term) (n:Int) (levels:Int):il (Int):=⟨Tryz.prog,110,[av t.cells,iv n,iv levels],fun x=>iv x,true,rv t n levels,rp t n levels,rf t n levels,fun _=>True,trivial⟩
def rj (rv:Term→Int→Int→Int) (rp:Term→Int→Int→Prop) (rf:∀ (t:Term) (n:Int) (levels:Int),rp t n levels→gR Tryz.prog 110 [av t.cells,iv n,iv levels] [] (iv (rv t n levels)) []) (t:Term) (n:Int) (levels:Int):Sk (Int) :=
 .br (decide (levels < 1))
 (.fin (-1))
 (.bt
 (.loop (default:Sum (Int) (Int)) (fun i2=>i2.2≤t.args.length) (fun i2=>t.args.length - i2.2) ((ar (n - 1),0):Int × Nat)
 (fun (i2:Int × Nat)=>⟨[(1,iv i2.1),(7,iv (i2.2:Int))],[]⟩) fun i2 =>
 .GJ 3 2 t.args.length <|
 .br ((decide ((i2.2:Int) < ((t.args.length:Nat):Int)))&&(decide (i2.1≥0)))
 (.r 7 (.aj (.aj (.p (bU (i2.2:Int) t.args.length)) (.o [.cast 26 (acE (Term.LQ (t.args.getD i2.2 default)))])) ((I4 rv rp rf (t.args.getD i2.2 default) i2.1 (ar (levels - 1))).c)) fun x3 =>
 .nx 6 7 i2.2 (x3,i2.2+1))
 (.fin (.inl (.inr i2.1))))
 (fun (b1:Int)=>⟨[(1,iv b1)],[]⟩) fun b1 =>
 .fin b1)
def kU:Nat→Term→Int→Int→Int
 | 0,_,_,_=>default
 | fu+1,t,n,levels=>(rj (kU fu) (fun _ _ _=>False) (fun _ _ _=>fun h=>h.elim) t n levels).val
theorem U5 (fu:Nat) (rf:∀ (t:Term) (n:Int) (levels:Int),t.depth≤fu∧True→gR Tryz.prog 110 [av t.cells,iv n,iv levels] [] (iv (kU fu t n levels)) []) (t:Term) (n:Int) (levels:Int) (hm:t.depth≤fu+1):(rj (kU fu) (fun t n levels=>t.depth≤fu∧True) rf t n levels).bC (fun _=>True):=by
 refine Sk.aR _ ?_
 unfold rj
 simp only [Sk.ju,Sk.aI,reduceCtorEq,ON,kk,kp,I4,maxLen]
 all_goals (repeat' first | assumption | (apply And.intro) | (intro h))
 all_goals first | trivial | assumption | omega | (refine Nat.le_of_lt_succ (Nat.lt_of_lt_of_le (Term.l9 t _ (by (try simp only [LN] at *); omega)) hm)) | ((try simp only [LN] at *) <;> first | omega | (refine (aA ?_ ?_).trans ?_ <;> omega) | (simp (disch:=omega) only [aA] at *; omega) | (grind) | (simp_all; done) | (simp_all; omega))
theorem Sj (fu:Nat) (rp:Term→Int→Int→Prop) (rf:∀ (t:Term) (n:Int) (levels:Int),rp t n levels→gR Tryz.prog 110 [av t.cells,iv n,iv levels] [] (iv (kU fu t n levels)) []) (t:Term) (n:Int) (levels:Int):(rj (kU fu) rp rf t n levels).val=kU (fu+1) t n levels:=by kernel_rfl
theorem Sl (fu:Nat):∀ (t:Term) (n:Int) (levels:Int),t.depth≤fu→gR Tryz.prog 110 [av t.cells,iv n,iv levels] [] (iv (kU fu t n levels)) []:=by
 induction fu with
 | zero=>intro t n levels hm; exact absurd hm (by have:=Term.vB t; omega)
 | succ fu ih =>
  intro t n levels hm
  have h:gR Tryz.prog 110 [av t.cells,iv n,iv levels] [] (iv ((rj (kU fu) (fun t n levels=>t.depth≤fu∧True) (fun t n levels h=>ih t n levels h.1) t n levels).val)) []:=gR.sk tok mixed (fun x=>iv x) (fun _=>[]) Tryz.func110 rfl (by kernel_rfl) 3000 (rj (kU fu) (fun t n levels=>t.depth≤fu∧True) (fun t n levels h=>ih t n levels h.1) t n levels) (by kernel_rfl) (U5 fu _ t n levels hm)
  rw [Sj] at h
  exact h
def U6 (t:Term) (n:Int) (levels:Int):Int:=kU (t.depth) t n levels
theorem U7 (t:Term) (n:Int) (levels:Int):gR Tryz.prog 110 [av t.cells,iv n,iv levels] [] (iv (U6 t n levels)) []:=Sl _ t n levels (Nat.le_refl _)
def Nr (t:Term) (n:Int) (levels:Int):il (Int):=⟨Tryz.prog,110,[av t.cells,iv n,iv levels],fun x=>iv x,true,U6 t n levels,True,fun _=>U7 t n levels,fun _=>True,trivial⟩
def AK (t:Term):Sk (Bool) :=
 .r 1 ((Nr t 100 20).c) fun x1 =>
 .fin (decide (x1≥0))
def acT t:=(AK t).val
theorem W7 (t:Term):(AK t).bC (fun _=>True):=by
 unfold AK
 try simp only [Nr]
 exact qT
def Qs t:=kk tok mixed Tryz.func74 [av t.cells] (fun x=>bv x) true (AK t) (acT t) (u0 (W7 t))
def AL (o:Order):Sk (Bool) :=
 .br ((decide (((o.rules.length:Nat):Int) > 60))||(decide (((o.ba.length:Nat):Int) > 60)))
 (.fin false)
 (.bt
 (.loop (default:Sum (Bool) (Unit)) (fun i2=>i2≤o.rules.length) (fun i2=>o.rules.length - i2) (0:Nat)
 (fun (i2:Nat)=>⟨[(3,iv (i2:Int))],[]⟩) fun i2 =>
 .lt 1 3 i2 o.rules.length
 (.r 6 (.aj (.p (bU (i2:Int) o.rules.length)) ((Qs ((o.rules.getD i2 default).term)).c)) fun x3 =>
 .br (!x3)
 (.fin (.inl (.inl false)))
 (.nx 5 3 i2 (i2+1)))
 (.fin (.inl (.inr ()))))
 (fun (_:Unit)=>⟨[],[]⟩) fun _ =>
 .fin true)
def acU o:=(AL o).val
theorem W8 (o:Order):(AL o).bC (fun _=>True):=by
 unfold AL
 try simp only [Qs]
 exact mA
def Ig o:=kk tok mixed Tryz.func50 [av o.cells] (fun x=>bv x) true (AL o) (acU o) (u0 (W8 o))
def wP (r:ah) (f:ak):Sk (Bool) :=
 .r 1 (.dep ((Ic r).c) fun x1=>.wh (!x1) false ((Ie f).c)) fun p6 =>
 .br ((!p6.1)||(!p6.2))
 (.fin false)
 (.bt
 (.loop (default:Sum (Bool) (Unit)) (fun i4=>i4≤r.aE.length) (fun i4=>r.aE.length - i4) (0:Nat)
 (fun (i4:Nat)=>⟨[(5,iv (i4:Int))],[]⟩) fun i4 =>
 .lt 2 4 i4 r.aE.length
 (.r 6 (.aj (.p (bU (i4:Int) r.aE.length)) ((Ig (r.aE.getD i4 default)).c)) fun x5 =>
 .br (!x5)
 (.fin (.inl (.inl false)))
 (.nx 5 5 i4 (i4+1)))
 (.fin (.inl (.inr ()))))
 (fun (_:Unit)=>⟨[],[]⟩) fun _ =>
 .fin true)
def acV r f:=(wP r f).val
theorem U8 (r:ah) (f:ak):(wP r f).dj (fun (x:Bool)=>x=true→r.Small∧f.Small):=by
 unfold wP
 try simp only [Ic,Ie,Ig,Nq,ak.Small,ah.Small]
 exact Ww
theorem W9 (r:ah) (f:ak):(wP r f).bC (fun _=>True):=by
 unfold wP
 try simp only [Ic,Ie,Ig,Nq,ak.Small,ah.Small]
 exact Bu
def Dp r f:=kp tok mixed Tryz.func26 [av r.cells,av f.cells] (fun x=>bv x) true (acV r f) (u0 (W9 r f)) (U8 r f)
def wQ (r:ah) (files:List ak) (aq:List cS) (az:List Move):Sk (Bool) :=
 .bind true (fun b1=>files.length≤3→∀ q,q < files.length→(files.getD q default).Small)
 (.loop (default:Sum (Bool) (Unit)) (fun i2=>i2≤files.length∧∀ q,q < i2→(files.getD q default).Small) (fun i2=>files.length - i2) (0:Nat)
 (fun (i2:Nat)=>⟨[(9,iv (i2:Int))],[]⟩) fun i2 =>
 .GJ 1 0 files.length <|
 .br ((decide ((i2:Int) < ((files.length:Nat):Int)))&&(decide ((i2:Int) < 3)))
 (.r 4 (.aj (.p (bU (i2:Int) files.length)) (.pz ((Dp r (files.getD i2 default)).c) fun x3=>.aj (.wh (!x3) false (.p (bU (i2:Int) files.length))) (.wh ((!x3)||(decide (((((files.getD i2 default).af).length:Nat):Int) > 20))) false (.p (bU (i2:Int) files.length))))) fun x3 =>
 .br (((!x3)||(decide (((((files.getD i2 default).af).length:Nat):Int) > 20)))||(decide (((((files.getD i2 default).aw).length:Nat):Int) > 30)))
 (.fin (.inl (.inl false)))
 (.nx 3 9 i2 (i2+1)))
 (.fin (.inl (.inr ()))))
 (fun (_:Unit)=>⟨[],[]⟩) fun _ =>
 .r 6 ((((((Dp r ({ aU:=({ BV:=0,m4:=0,gj:=0,sum:=0,au:=0,df:=({ kind:=0,n:=0,unit:=0 }:sy),day:=0,cH:=0,A2:=0,need:=0,mD:=0,flags:=0,parts:=0 }:rE),af:=[],bn:=[],aw:=[],facts:=[] }:ak)).ov 1 15 _ rfl ⟨_,rfl⟩).ov 1 16 _ rfl ⟨_,rfl⟩).ov 1 17 _ rfl ⟨_,rfl⟩).ov 1 18 _ rfl ⟨_,rfl⟩).c) fun x4 =>
 .fin (((x4&&((decide (((files.length:Nat):Int)≤3))||((decide (((files.length:Nat):Int) > 50))&&(decide (((files.length:Nat):Int)≤60)))))&&(decide (((aq.length:Nat):Int)≤40)))&&(decide (((az.length:Nat):Int)≤110)))
def acW r files aq az:=(wQ r files aq az).val
theorem U9 (r:ah) (files:List ak) (aq:List cS) (az:List Move):(wQ r files aq az).dj (fun (x:Bool)=>x=true→r.Small∧(files.length≤50→∀ q,q < files.length→(files.getD q default).Small)):=by
 refine Sk.bz _ ?_
 unfold wQ
 simp only [Sk.de,Sk.aI,reduceCtorEq,ON,kk,kp,Dp,maxLen]
 all_goals simp only [LN] at *
 refine ⟨⟨⟨Nat.zero_le _,fun q hq=>absurd hq (by omega)⟩,fun i hi=>⟨fun hc x _ hx hg _=>⟨⟨by omega,fun q hq=>?_⟩,by omega⟩,fun hc h3 q hq=>hi.2 q (by omega)⟩⟩,fun _ hb x _ hx hc=>⟨(hx hc.1.1.1).1,fun h50 q hq=>hb (by omega) q hq⟩⟩
 rcases Nat.lt_succ_iff_lt_or_eq.1 hq with h1 | rfl
 ·exact hi.2 q h1
 ·exact (hx hg.1.1).2
theorem Xa (r:ah) (files:List ak) (aq:List cS) (az:List Move):(wQ r files aq az).bC (fun _=>True):=by
 refine Sk.aR _ ?_
 unfold wQ
 simp only [Sk.ju,Sk.aI,reduceCtorEq,ON,kk,kp,Dp,maxLen]
 all_goals simp only [LN] at *
 refine ⟨⟨Nat.zero_le _,fun q hq=>absurd hq (by omega)⟩,fun i hi _=>⟨fun hc=>⟨⟨by omega,fun x _ _=>⟨fun _=>by omega,fun _=>by omega⟩⟩,fun x _ hx hg _=>⟨by rw [aA (by omega) (by omega)]; omega,⟨by omega,fun q hq=>?_⟩,by omega⟩⟩,fun hc h3 q hq=>hi.2 q (by omega)⟩⟩
 rcases Nat.lt_succ_iff_lt_or_eq.1 hq with h1 | rfl
 ·exact hi.2 q h1
 ·exact (hx hg.1.1).2
def Ih r files aq az:=kp tok mixed Tryz.func13 [av r.cells,lv ak.cells files,lv cS.cells aq,lv Move.cells az] (fun x=>bv x) true (acW r files aq az) (u0 (Xa r files aq az)) (U9 r files aq az)
def tD (c_:Int):Sk (Bool) :=
 .fin (((decide ((97:Int)≤c_))&&(decide (c_≤122)))||((decide ((65:Int)≤c_))&&(decide (c_≤90))))
def Ns c_:=(tD c_).val
theorem Pt (c_:Int):Ns c_=(((decide ((97:Int)≤c_))&&(decide (c_≤122)))||((decide ((65:Int)≤c_))&&(decide (c_≤90)))):=rfl
theorem Pu (c_:Int):(tD c_).bC (fun _=>True):=by
 unfold tD
 exact qT
def GA c_:=kk tok mixed Tryz.func111 [.d (.v (.int .u8 c_))] (fun x=>bv x) true (tD c_) (Ns c_) (u0 (Pu c_))
def xM (s:ByteArray):Sk (Bool) :=
 .br ((decide (((s.size:Nat):Int) < 1))||(decide (((s.size:Nat):Int) > 20)))
 (.fin false)
 (.bt
 (.loop (default:Sum (Bool) (Unit)) (fun i2=>i2≤s.size) (fun i2=>s.size - i2) (0:Nat)
 (fun (i2:Nat)=>⟨[(3,iv (i2:Int))],[]⟩) fun i2 =>
 .br (decide ((i2:Int) < ((s.size:Nat):Int)))
 (.r 6 (.aj (.p (0≤(i2:Int)∧(i2:Int) < ((s.size:Nat):Int))) (.aj (.wh (((s.data.toList.getD i2 0).toNat:Int) == 95) false (.p (0≤(i2:Int)∧(i2:Int) < ((s.size:Nat):Int)))) (.wh (((s.data.toList.getD i2 0).toNat:Int) == 95) false (.wh (decide ((48:Int)≤((s.data.toList.getD i2 0).toNat:Int))) true (.p (0≤(i2:Int)∧(i2:Int) < ((s.size:Nat):Int))))))) fun _ =>
 .r 7 (.aj (.p (0≤(i2:Int)∧(i2:Int) < ((s.size:Nat):Int))) ((GA ((s.data.toList.getD i2 0).toNat:Int)).c)) fun x3 =>
 .br ((!x3)&&(((i2:Int) == 0)||(!((((s.data.toList.getD i2 0).toNat:Int) == 95)||((decide ((48:Int)≤((s.data.toList.getD i2 0).toNat:Int)))&&(decide (((s.data.toList.getD i2 0).toNat:Int)≤57)))))))
 (.fin (.inl (.inl false)))
 (.nx 5 3 i2 (i2+1)))
 (.fin (.inl (.inr ()))))
 (fun (_:Unit)=>⟨[],[]⟩) fun _ =>
 .fin true)
def abJ s:=(xM s).val
theorem Va (s:ByteArray):(xM s).bC (fun _=>True):=by
 unfold xM
 try simp only [GA,Pt]
 exact Bu
def Nt s:=kk tok mixed Tryz.func75 [sv s] (fun x=>bv x) true (xM s) (abJ s) (u0 (Va s))
def tE (l:List ByteArray) (n:Int) (s:ByteArray):Sk (Bool) :=
 .bt
 (.loop (default:Sum (Bool) (Unit)) (fun i2=>i2≤l.length) (fun i2=>l.length - i2) (0:Nat)
 (fun (i2:Nat)=>⟨[(7,iv (i2:Int))],[]⟩) fun i2 =>
 .GJ 0 0 l.length <|
 .br ((decide ((i2:Int) < n))&&(decide ((i2:Int) < ((l.length:Nat):Int))))
 (.r 4 (.p (bU (i2:Int) l.length)) fun _ =>
 .br ((l.getD i2 default).toList == s.toList)
 (.fin (.inl (.inl true)))
 (.nx 3 7 i2 (i2+1)))
 (.fin (.inl (.inr ()))))
 (fun (_:Unit)=>⟨[],[]⟩) fun _ =>
 .fin false
def Xb l n s:=(tE l n s).val
theorem Pv (l:List ByteArray) (n:Int) (s:ByteArray):(tE l n s).bC (fun _=>True):=by
 unfold tE
 exact mA
def GB l n s:=kk tok mixed Tryz.func76 [lv ki l,iv n,sv s] (fun x=>bv x) true (tE l n s) (Xb l n s) (u0 (Pv l n s))
def vm (l:List ByteArray) (i:Int):Sk (Int) :=
 .r 1 (.aj (.p (bU i l.length)) ((Nt (l.getD i.toNat default)).c)) fun x1 =>
 .br (!x1)
 (.fin 2)
 (.r 3 (.aj (.p (bU i l.length)) ((GB l i (l.getD i.toNat default)).c)) fun x2 =>
 .br x2
 (.fin 5)
 (.fin 0))
def ZE l i:=(vm l i).val
theorem Sm (l:List ByteArray) (i:Int) (hi:0≤i∧i < (l.length:Int)):(vm l i).bC (fun _=>True):=by
 unfold vm
 try simp only [GB,Nt]
 exact mA
def jh l i:=kk tok mixed Tryz.func51 [lv ki l,iv i] (fun x=>iv x) true (vm l i) (ZE l i) (Sm l i)
def tF (n:Int) (low:Int) (high:Int):Sk (Bool) :=
 .fin ((decide (low≤n))&&(decide (n≤high)))
def Nu n low high:=(tF n low high).val
theorem fZ (n:Int) (low:Int) (high:Int):Nu n low high=((decide (low≤n))&&(decide (n≤high))):=rfl
theorem Pw (n:Int) (low:Int) (high:Int):(tF n low high).bC (fun _=>True):=by
 unfold tF
 exact qT
def bp n low high:=kk tok mixed Tryz.func53 [iv n,iv low,iv high] (fun x=>bv x) true (tF n low high) (Nu n low high) (u0 (Pw n low high))
def tG (l:List Int) (low:Int) (high:Int):Sk (Bool) :=
 .bt
 (.loop (default:Sum (Bool) (Unit)) (fun i2=>i2≤l.length) (fun i2=>l.length - i2) (0:Nat)
 (fun (i2:Nat)=>⟨[(7,iv (i2:Int))],[]⟩) fun i2 =>
 .lt 0 0 i2 l.length
 (.r 4 (.aj (.p (bU (i2:Int) l.length)) ((bp (l.getD i2 default) low high).c)) fun x3 =>
 .br (!x3)
 (.fin (.inl (.inl false)))
 (.r 6 (.aj (.wh (decide ((i2:Int) > 0)) true (.p (bU (ar ((i2:Int) - 1)) l.length))) (.wh (decide ((i2:Int) > 0)) true (.p (bU (i2:Int) l.length)))) fun _ =>
 .br ((decide ((i2:Int) > 0))&&(decide ((l.getD ((ar ((i2:Int) - 1)).toNat) default)≥(l.getD i2 default))))
 (.fin (.inl (.inl false)))
 (.nx 3 7 i2 (i2+1))))
 (.fin (.inl (.inr ()))))
 (fun (_:Unit)=>⟨[],[]⟩) fun _ =>
 .fin true
def Xc l low high:=(tG l low high).val
theorem Px (l:List Int) (low:Int) (high:Int):(tG l low high).bC (fun _=>True):=by
 unfold tG
 try simp only [bp,fZ]
 exact Bu
def vn l low high:=kk tok mixed Tryz.func77 [lv bI l,iv low,iv high] (fun x=>bv x) true (tG l low high) (Xc l low high) (u0 (Px l low high))
def ph (r:ah) (c_:kP):Sk (Bool) :=
 .r 1 (.dep ((bp c_.order 0 (ar (((r.aE.length:Nat):Int) - 1))).c) fun x1=>.wh (!x1) false ((bp c_.au 0 (ar (((r.cz.length:Nat):Int) - 1))).c)) fun Qd =>
 .br ((((!Qd.1)||(!Qd.2))||(decide (((c_.gT.length:Nat):Int) > 60)))||(decide (((c_.shut.length:Nat):Int) > 200)))
 (.fin false)
 (.bt
 (.loop (default:Sum (Bool) (Unit)) (fun i4=>i4≤c_.gT.length) (fun i4=>c_.gT.length - i4) (0:Nat)
 (fun (i4:Nat)=>⟨[(5,iv (i4:Int))],[]⟩) fun i4 =>
 .lt 3 4 i4 c_.gT.length
 (.r 6 (.aj (.p (bU (i4:Int) c_.gT.length)) (.aj (.p ((100:Int)≠0)) (.dep ((bp (ar ((c_.gT.getD i4 default).tdiv 100)) 1 12).c) fun x5=>.aj (.wh (!x5) false (.p (bU (i4:Int) c_.gT.length))) (.aj (.wh (!x5) false (.p ((100:Int)≠0))) (.wh (!x5) false ((bp ((c_.gT.getD i4 default).tmod 100) 1 31).c)))))) fun p7 =>
 .br ((!p7.1)||(!p7.2))
 (.fin (.inl (.inl false)))
 (.nx 5 5 i4 (i4+1)))
 (.fin (.inl (.inr ()))))
 (fun (_:Unit)=>⟨[],[]⟩) fun _ =>
 .r 8 (.dep ((vn c_.rest 0 6).c) fun x8=>.dep (.wh x8 true ((vn c_.gT 0 2000).c)) fun x9=>.wh (x8&&x9) true ((vn c_.shut 0 100000).c)) fun GL =>
 .fin ((GL.1&&GL.2.1)&&GL.2.2))
def Py r c_:=(ph r c_).val
theorem Ii (r:ah) (c_:kP):(ph r c_).bC (fun _=>True):=by
 unfold ph
 try simp only [vn,bp,fZ]
 exact Bu
def uH r c_:=kk tok mixed Tryz.func52 [av r.cells,av c_.cells] (fun x=>bv x) true (ph r c_) (Py r c_) (u0 (Ii r c_))
def pQ (r:ah):Sk (Int) :=
 .br (decide (((r.cz.length:Nat):Int) > 8))
 (.fin 6)
 (.bt
 (.loop (default:Sum (Int) (Unit)) (fun i2=>i2≤r.cz.length) (fun i2=>r.cz.length - i2) (0:Nat)
 (fun (i2:Nat)=>⟨[(3,iv (i2:Int))],[]⟩) fun i2 =>
 .lt 1 0 i2 r.cz.length
 (.r 6 ((jh r.cz (i2:Int)).c) fun x3 =>
 .br (x3 != 0)
 (.fin (.inl (.inl x3)))
 (.nx 5 3 i2 (i2+1)))
 (.fin (.inl (.inr ()))))
 (fun (_:Unit)=>⟨[],[]⟩) fun _ =>
 .br (decide (((r.aN.length:Nat):Int) > 40))
 (.fin 6)
 (.bt
 (.loop (default:Sum (Int) (Unit)) (fun i5=>i5.1.length=i5.2∧i5.2≤r.aN.length) (fun i5=>r.aN.length - i5.2) (([],0):(List ByteArray) × Nat)
 (fun (i5:(List ByteArray) × Nat)=>⟨[(5,ow 100001 i5.1),(6,iv (i5.2:Int))],[(100001,bw 9 1 ki i5.1)]⟩) fun i5 =>
 .lt 1 1 i5.2 r.aN.length
 (.r 15 (.aj (.p (bU (i5.2:Int) r.aN.length)) (.aj (.o [.eG (fm yT [(r.aN.getD i5.2 default).name])]) (.aj (.o [.eG (mY yT i5.1 [(r.aN.getD i5.2 default).name])]) (.aj (.t (yT.ou [(r.aN.getD i5.2 default).name])) (.p (yE i5.1.length [(r.aN.getD i5.2 default).name].length 16)))))) fun _ =>
 .r 16 ((jh (i5.1++[(r.aN.getD i5.2 default).name]) (i5.2:Int)).c) fun x6 =>
 .br (x6 != 0)
 (.fin (.inl (.inl x6)))
 (.r 19 (.aj (.p (bU (i5.2:Int) r.aN.length)) ((uH r (r.aN.getD i5.2 default)).c)) fun x7 =>
 .br (!x7)
 (.fin (.inl (.inl 1)))
 (.nx 14 6 i5.2 (i5.1++[(r.aN.getD i5.2 default).name],i5.2+1))))
 (.fin (.inl (.inr ()))))
 (fun (_:Unit)=>⟨[],[]⟩) fun _ =>
 .fin 0))
def Xd r:=(pQ r).val
theorem Nv (r:ah):(pQ r).dj (fun (x:Int)=>x=0→r.cz.length≤8∧r.aN.length≤40):=by
 unfold pQ
 try simp only [uH,jh]
 exact Fz
theorem Pz (r:ah):(pQ r).bC (fun _=>True):=by
 unfold pQ
 try simp only [uH,jh]
 exact mA
def AM r:=kp tok mixed Tryz.func27 [av r.cells] (fun x=>iv x) true (Xd r) (u0 (Pz r)) (Nv r)
def pj (r:ah):Sk (Int) :=
 .br (decide (((r.gh.length:Nat):Int) > 20))
 (.fin 6)
 (.bt
 (.loop (default:Sum (Int) (Unit)) (fun i2=>i2≤r.gh.length) (fun i2=>r.gh.length - i2) (0:Nat)
 (fun (i2:Nat)=>⟨[(3,iv (i2:Int))],[]⟩) fun i2 =>
 .lt 1 2 i2 r.gh.length
 (.r 6 (.aj (.p (bU (i2:Int) r.gh.length)) ((bp ((r.gh.getD i2 default).Uc) 0 9).c)) fun x3 =>
 .br (!x3)
 (.fin (.inl (.inl 1)))
 (.nx 5 3 i2 (i2+1)))
 (.fin (.inl (.inr ()))))
 (fun (_:Unit)=>⟨[],[]⟩) fun _ =>
 .br (decide (((r.bu.length:Nat):Int) > 200))
 (.fin 6)
 (.bind true (fun b4=>r.aN.length≤40→r.im)
 (.loop (default:Sum (Int) (Unit)) (fun i5=>i5.1.length=i5.2∧i5.2≤r.bu.length∧(r.aN.length≤40→∀ q,q < i5.2→0≤(r.bu.getD q default).cH∧(r.bu.getD q default).cH < (r.aN.length:Int))) (fun i5=>r.bu.length - i5.2) (([],0):(List ByteArray) × Nat)
 (fun (i5:(List ByteArray) × Nat)=>⟨[(4,ow 100001 i5.1),(5,iv (i5.2:Int))],[(100001,bw 9 1 ki i5.1)]⟩) fun i5 =>
 .lt 1 3 i5.2 r.bu.length
 (.r 14 (.aj (.p (bU (i5.2:Int) r.bu.length)) (.aj (.o [.eG (fm yT [(r.bu.getD i5.2 default).name])]) (.aj (.o [.eG (mY yT i5.1 [(r.bu.getD i5.2 default).name])]) (.aj (.t (yT.ou [(r.bu.getD i5.2 default).name])) (.p (yE i5.1.length [(r.bu.getD i5.2 default).name].length 16)))))) fun _ =>
 .r 15 ((jh (i5.1++[(r.bu.getD i5.2 default).name]) (i5.2:Int)).c) fun x6 =>
 .br (x6 != 0)
 (.fin (.inl (.inl x6)))
 (.r 18 (.aj (.p (bU (i5.2:Int) r.bu.length)) (.dep ((bp ((r.bu.getD i5.2 default).cH) 0 (ar (((r.aN.length:Nat):Int) - 1))).c) fun x7=>.aj (.wh (!x7) false (.p (bU (i5.2:Int) r.bu.length))) (.wh (!x7) false ((bp ((r.bu.getD i5.2 default).group) 0 (ar (((r.gh.length:Nat):Int) - 1))).c)))) fun p9 =>
 .br ((!p9.1)||(!p9.2))
 (.fin (.inl (.inl 1)))
 (.nx 13 5 i5.2 (i5.1++[(r.bu.getD i5.2 default).name],i5.2+1))))
 (.fin (.inl (.inr ()))))
 (fun (_:Unit)=>⟨[],[]⟩) fun _ =>
 .fin 0))
def Qt r:=(pj r).val
theorem PA (r:ah) (hP:r.aN.length≤40):(pj r).dj (fun (x:Int)=>x=0→r.gh.length≤20∧r.bu.length≤200∧r.im):=by
 refine Sk.bz _ ?_
 unfold pj
 simp only [Sk.de,Sk.aI,reduceCtorEq,ON,kk,kp,bp,jh,fZ,forall_eq,ah.im,maxLen]
 all_goals exact aga
theorem Nw (r:ah):(fun (x:Int)=>(r.aN.length≤40)→(x=0→r.gh.length≤20∧r.bu.length≤200∧r.im)) (Qt r):=fun hP=>Sk.dk _ (PA r hP)
theorem Sn (r:ah):(pj r).bC (fun _=>True):=by
 refine Sk.aR _ ?_
 unfold pj
 simp only [Sk.ju,Sk.aI,reduceCtorEq,ON,kk,kp,bp,jh,fZ,forall_eq,ah.im,maxLen]
 all_goals exact aga
def CN r:=kk tok mixed Tryz.func28 [av r.cells] (fun x=>iv x) true (pj r) (Qt r) (u0 (Sn r)) (fun (x:Int)=>(r.aN.length≤40)→(x=0→r.gh.length≤20∧r.bu.length≤200∧r.im)) (Nw r)
def kM (o:Order):Sk (Bool) :=
 .bind true (fun b1=>∀ j:Nat,j < o.ba.length→((j:Int)≤(o.ba.getD j default).ask∧(o.ba.getD j default).ask≤21)∧0≤(o.ba.getD j default).c9∧(o.ba.getD j default).c9 < 5)
 (.loop (default:Sum (Bool) (Unit)) (fun i2=>(∀ j:Nat,j < i2→((j:Int)≤(o.ba.getD j default).ask∧(o.ba.getD j default).ask≤21)∧0≤(o.ba.getD j default).c9∧(o.ba.getD j default).c9 < 5)∧i2≤o.ba.length) (fun i2=>o.ba.length - i2) (0:Nat)
 (fun (i2:Nat)=>⟨[(3,iv (i2:Int))],[]⟩) fun i2 =>
 .lt 1 2 i2 o.ba.length
 (.r 4 (.aj (.p (bU (i2:Int) o.ba.length)) (.dep ((bp ((o.ba.getD i2 default).ask) 0 21).c) fun x3=>.aj (.wh (!x3) false (.p (bU (i2:Int) o.ba.length))) (.wh (!x3) false ((bp ((o.ba.getD i2 default).c9) 0 4).c)))) fun p5 =>
 .br ((!p5.1)||(!p5.2))
 (.fin (.inl (.inl false)))
 (.r 6 (.aj (.wh (decide ((i2:Int) > 0)) true (.p (bU (ar ((i2:Int) - 1)) o.ba.length))) (.wh (decide ((i2:Int) > 0)) true (.p (bU (i2:Int) o.ba.length)))) fun _ =>
 .br ((decide ((i2:Int) > 0))&&(decide (((o.ba.getD ((ar ((i2:Int) - 1)).toNat) default).ask)≥((o.ba.getD i2 default).ask))))
 (.fin (.inl (.inl false)))
 (.nx 3 3 i2 (i2+1))))
 (.fin (.inl (.inr ()))))
 (fun (_:Unit)=>⟨[],[]⟩) fun _ =>
 .bind true (fun b6=>∀ j:Nat,j < o.rules.length→(j:Int)≤(o.rules.getD j default).ask∧(o.rules.getD j default).ask≤21)
 (.loop (default:Sum (Bool) (Unit)) (fun i7=>(∀ j:Nat,j < i7→(j:Int)≤(o.rules.getD j default).ask∧(o.rules.getD j default).ask≤21)∧i7≤o.rules.length) (fun i7=>o.rules.length - i7) (0:Nat)
 (fun (i7:Nat)=>⟨[(4,iv (i7:Int))],[]⟩) fun i7 =>
 .lt 1 3 i7 o.rules.length
 (.r 11 (.aj (.p (bU (i7:Int) o.rules.length)) ((bp ((o.rules.getD i7 default).ask) 0 21).c)) fun x8 =>
 .br (!x8)
 (.fin (.inl (.inl false)))
 (.r 13 (.aj (.wh (decide ((i7:Int) > 0)) true (.p (bU (ar ((i7:Int) - 1)) o.rules.length))) (.wh (decide ((i7:Int) > 0)) true (.p (bU (i7:Int) o.rules.length)))) fun _ =>
 .br ((decide ((i7:Int) > 0))&&(decide (((o.rules.getD ((ar ((i7:Int) - 1)).toNat) default).ask)≥((o.rules.getD i7 default).ask))))
 (.fin (.inl (.inl false)))
 (.nx 10 4 i7 (i7+1))))
 (.fin (.inl (.inr ()))))
 (fun (_:Unit)=>⟨[],[]⟩) fun _ =>
 .fin true
def Nx o:=(kM o).val
theorem EU (o:Order):(kM o).dj (fun (x:Bool)=>x=true→(∀ j,j < o.ba.length→0≤(o.ba.getD j default).c9∧(o.ba.getD j default).c9 < 5)∧o.ba.length≤22∧o.rules.length≤22):=by
 refine Sk.bz _ ?_
 unfold kM
 simp only [Sk.de,Sk.aI,reduceCtorEq,ON,kk,kp,bp,fZ,forall_eq,maxLen]
 refine ⟨⟨⟨fun j hj=>absurd hj (by omega),Nat.zero_le _⟩,fun i hi=>⟨fun hc h1 _ h2 _=>?_,fun hc j hj=>?_⟩⟩,fun _ hJ=>⟨⟨⟨fun j hj=>absurd hj (by omega),Nat.zero_le _⟩,fun i hi=>⟨fun hc h1 _ h2 _=>?_,fun hc j hj=>?_⟩⟩,fun _ hJ2=>⟨fun j hj=>(hJ j hj).2,?_,?_⟩⟩⟩
 rotate_right
 rotate_right
 ·rcases Nat.lt_or_ge 22 o.ba.length with h | h
  ·have:=(hJ 22 h).1; omega
  ·exact h
 ·rcases Nat.lt_or_ge 22 o.rules.length with h | h
  ·have:=hJ2 22 h; omega
  ·exact h
 all_goals simp only [LN] at hc
 ·simp only [LN] at h1 h2
  refine ⟨⟨fun j hj=>?_,by omega⟩,by omega⟩
  by_cases e:j=i
  ·subst e
   refine ⟨⟨?_,by omega⟩,by omega,by omega⟩
   by_cases e0:j=0
   ·subst e0; omega
   ·have h3:=hi.1 (j - 1) (by omega)
    have h4:=h2.resolve_left (by omega)
    rw [aA (by omega) (by omega),show ((j:Int) - 1).toNat=j - 1 by omega] at h4
    omega
  ·exact hi.1 j (by omega)
 ·exact hi.1 j (by omega)
 ·simp only [LN] at h1 h2
  refine ⟨⟨fun j hj=>?_,by omega⟩,by omega⟩
  by_cases e:j=i
  ·subst e
   refine ⟨?_,by omega⟩
   by_cases e0:j=0
   ·subst e0; omega
   ·have h3:=hi.1 (j - 1) (by omega)
    have h4:=h2.resolve_left (by omega)
    rw [aA (by omega) (by omega),show ((j:Int) - 1).toNat=j - 1 by omega] at h4
    omega
  ·exact hi.1 j (by omega)
 ·exact hi.1 j (by omega)
theorem GC (o:Order):(kM o).bC (fun _=>True):=by
 refine Sk.aR _ ?_
 unfold kM
 simp only [Sk.ju,Sk.aI,reduceCtorEq,ON,kk,kp,bp,fZ,forall_eq,maxLen]
 refine ⟨⟨⟨fun j hj=>absurd hj (by omega),Nat.zero_le _⟩,fun i hi hm=>⟨fun hc=>⟨⟨?_,fun _=>?_⟩,fun h1=>⟨⟨fun h3=>?_,fun _=>?_⟩,fun _ h2 _=>⟨?_,?_⟩⟩⟩,fun hc j hj=>?_⟩⟩,fun _ hJ=>⟨⟨fun j hj=>absurd hj (by omega),Nat.zero_le _⟩,fun i hi hm=>⟨fun hc=>⟨?_,fun h1=>⟨⟨fun h3=>?_,fun _=>?_⟩,fun _ h2 _=>⟨?_,?_⟩⟩⟩,fun hc j hj=>?_⟩⟩⟩
 all_goals simp only [LN] at hc
 ·exact ⟨by omega,by omega⟩
 ·exact ⟨by omega,by omega⟩
 ·simp only [LN] at h3
  rw [aA (by omega) (by omega)]
  exact ⟨by omega,by omega⟩
 ·exact ⟨by omega,by omega⟩
 ·exact (aA (by omega) (by omega)).trans (by omega)
 ·simp only [LN] at h1 h2
  refine ⟨⟨fun j hj=>?_,by omega⟩,by omega⟩
  by_cases e:j=i
  ·subst e
   refine ⟨⟨?_,by omega⟩,by omega,by omega⟩
   by_cases e0:j=0
   ·subst e0; omega
   ·have h3:=hi.1 (j - 1) (by omega)
    have h4:=h2.resolve_left (by omega)
    rw [aA (by omega) (by omega),show ((j:Int) - 1).toNat=j - 1 by omega] at h4
    omega
  ·exact hi.1 j (by omega)
 ·exact hi.1 j (by omega)
 ·exact ⟨by omega,by omega⟩
 ·simp only [LN] at h3
  rw [aA (by omega) (by omega)]
  exact ⟨by omega,by omega⟩
 ·exact ⟨by omega,by omega⟩
 ·exact (aA (by omega) (by omega)).trans (by omega)
 ·simp only [LN] at h1 h2
  refine ⟨⟨fun j hj=>?_,by omega⟩,by omega⟩
  by_cases e:j=i
  ·subst e
   refine ⟨?_,by omega⟩
   by_cases e0:j=0
   ·subst e0; omega
   ·have h3:=hi.1 (j - 1) (by omega)
    have h4:=h2.resolve_left (by omega)
    rw [aA (by omega) (by omega),show ((j:Int) - 1).toNat=j - 1 by omega] at h4
    omega
  ·exact hi.1 j (by omega)
 ·exact hi.1 j (by omega)
def s6 o:=kp tok mixed Tryz.func54 [av o.cells] (fun x=>bv x) true (Nx o) (u0 (GC o)) (EU o)
def pR (r:ah):Sk (Int) :=
 .br (decide (((r.aE.length:Nat):Int) > 20))
 (.fin 6)
 (.bind true (fun b1=>r.cj∧(∀ i,i < r.aE.length→(r.aE.getD i default).ba.length≤22∧(r.aE.getD i default).rules.length≤22))
 (.loop (default:Sum (Int) (Unit)) (fun i2=>i2.1.length=i2.2∧i2.2≤r.aE.length∧(∀ i j,i < i2.2→j < (r.aE.getD i default).ba.length→0≤((r.aE.getD i default).ba.getD j default).c9∧((r.aE.getD i default).ba.getD j default).c9 < 5)∧(∀ i,i < i2.2→(r.aE.getD i default).ba.length≤22∧(r.aE.getD i default).rules.length≤22)) (fun i2=>r.aE.length - i2.2) (([],0):(List ByteArray) × Nat)
 (fun (i2:(List ByteArray) × Nat)=>⟨[(3,ow 100001 i2.1),(4,iv (i2.2:Int))],[(100001,bw 9 1 ki i2.1)]⟩) fun i2 =>
 .lt 1 4 i2.2 r.aE.length
 (.r 7 (.aj (.p (bU (i2.2:Int) r.aE.length)) (.aj (.o [.eG (fm yT [(r.aE.getD i2.2 default).name])]) (.aj (.o [.eG (mY yT i2.1 [(r.aE.getD i2.2 default).name])]) (.aj (.t (yT.ou [(r.aE.getD i2.2 default).name])) (.p (yE i2.1.length [(r.aE.getD i2.2 default).name].length 16)))))) fun _ =>
 .r 8 ((jh (i2.1++[(r.aE.getD i2.2 default).name]) (i2.2:Int)).c) fun x3 =>
 .br (x3 != 0)
 (.fin (.inl (.inl x3)))
 (.r 11 (.aj (.p (bU (i2.2:Int) r.aE.length)) ((s6 (r.aE.getD i2.2 default)).c)) fun x4 =>
 .br (!x4)
 (.fin (.inl (.inl 1)))
 (.nx 6 4 i2.2 (i2.1++[(r.aE.getD i2.2 default).name],i2.2+1))))
 (.fin (.inl (.inr ()))))
 (fun (_:Unit)=>⟨[],[]⟩) fun _ =>
 .fin 0)
def Xe r:=(pR r).val
theorem Ny (r:ah):(pR r).dj (fun (x:Int)=>x=0→r.cj∧r.aE.length≤20∧(∀ i,i < r.aE.length→(r.aE.getD i default).ba.length≤22∧(r.aE.getD i default).rules.length≤22)):=by
 unfold pR
 try simp only [s6,jh,ah.cj]
 exact Fz
theorem PB (r:ah):(pR r).bC (fun _=>True):=by
 unfold pR
 try simp only [s6,jh,ah.cj]
 exact mA
def AN r:=kp tok mixed Tryz.func29 [av r.cells] (fun x=>iv x) true (Xe r) (u0 (PB r)) (Ny r)
def oo (r:ah):Sk (Int) :=
 .br (decide (((r.bg.length:Nat):Int) > 100))
 (.fin 6)
 (.bt
 (.loop (default:Sum (Int) (Unit)) (fun i2=>i2≤r.bg.length) (fun i2=>r.bg.length - i2) (0:Nat)
 (fun (i2:Nat)=>⟨[(3,iv (i2:Int))],[]⟩) fun i2 =>
 .lt 1 5 i2 r.bg.length
 (.bt
 (.r 6 (.p (bU (i2:Int) r.bg.length)) fun _ =>
 .r 7 (.dep ((bp ((r.bg.getD i2 default).from_) 0 (ar (((r.aN.length:Nat):Int) - 1))).c) fun x4=>.dep (.wh (!x4) false ((bp ((r.bg.getD i2 default).cM) 0 (ar (((r.aN.length:Nat):Int) - 1))).c)) fun x5=>.wh ((!x4)||(!x5)) false ((bp ((r.bg.getD i2 default).days) 1 20000).c)) fun p9 =>
 .br (((!p9.1)||(!p9.2.1))||(!p9.2.2))
 (.fin (.inl (.inl (.inl 1))))
 (.bt
 (.loop (default:Sum (Sum (Sum (Sum (Int) (Unit)) (Nat)) (Int × (List ev) × Int × ev × Int × (List kP) × Int × Int × Bool × Bool × Bool × Bool × Bool × Bool × Int × Int × Bool)) (Int × Int × Int × Bool)) (fun i8=>i8≤i2) (fun i8=>i2 - i8) (0:Nat)
 (fun (i8:Nat)=>⟨[(5,iv (i8:Int))],[]⟩) fun i8 =>
 .br (decide ((i8:Int) < (i2:Int)))
 (.r 12 (.aj (.p (bU (i8:Int) r.bg.length)) (.wh (((r.bg.getD i8 default).from_) == ((r.bg.getD i2 default).from_)) true (.p (bU (i8:Int) r.bg.length)))) fun _ =>
 .br ((((r.bg.getD i8 default).from_) == ((r.bg.getD i2 default).from_))&&(((r.bg.getD i8 default).cM) == ((r.bg.getD i2 default).cM)))
 (.fin (.inl (.inl (.inl (.inl (.inl 5))))))
 (.nx 11 5 i8 (i8+1)))
 (.fin (.inl (.inr ((i8:Int),(i8:Int),(i2:Int),decide ((i8:Int) < (i2:Int)))))))
 (fun (b7:Int × Int × Int × Bool)=>⟨[(5,iv b7.1),(46,iv b7.2.1),(47,iv b7.2.2.1),(48,bv b7.2.2.2)],[]⟩) fun b7 =>
 .fin (.inr (b7.1,r.bg,(i2:Int),r.bg.getD i2 default,(r.bg.getD i2 default).from_,r.aN,((r.aN.length:Nat):Int),ar (((r.aN.length:Nat):Int) - 1),p9.1,!p9.1,!p9.1,(!p9.1)||(!p9.2.1),(!p9.1)||(!p9.2.1),((!p9.1)||(!p9.2.1))||(!p9.2.2),b7.2.1,b7.2.2.1,b7.2.2.2))))
 (fun (b3:Int × (List ev) × Int × ev × Int × (List kP) × Int × Int × Bool × Bool × Bool × Bool × Bool × Bool × Int × Int × Bool)=>⟨[(5,iv b3.1),(18,lv ev.cells b3.2.1),(19,iv b3.2.2.1),(21,av b3.2.2.2.1.cells),(23,iv b3.2.2.2.2.1),(25,lv kP.cells b3.2.2.2.2.2.1),(26,iv b3.2.2.2.2.2.2.1),(27,iv b3.2.2.2.2.2.2.2.1),(28,bv b3.2.2.2.2.2.2.2.2.1),(29,bv b3.2.2.2.2.2.2.2.2.2.1),(30,bv b3.2.2.2.2.2.2.2.2.2.2.1),(39,bv b3.2.2.2.2.2.2.2.2.2.2.2.1),(40,bv b3.2.2.2.2.2.2.2.2.2.2.2.2.1),(45,bv b3.2.2.2.2.2.2.2.2.2.2.2.2.2.1),(46,iv b3.2.2.2.2.2.2.2.2.2.2.2.2.2.2.1),(47,iv b3.2.2.2.2.2.2.2.2.2.2.2.2.2.2.2.1),(48,bv b3.2.2.2.2.2.2.2.2.2.2.2.2.2.2.2.2)],[]⟩) fun _ =>
 .nx 5 3 i2 (i2+1))
 (.fin (.inl (.inr ()))))
 (fun (_:Unit)=>⟨[],[]⟩) fun _ =>
 .fin 0)
def Vb r:=(oo r).val
theorem Kq (r:ah):(oo r).dj (fun (x:Int)=>x=0→r.bg.length≤100):=by
 unfold oo
 try simp only [bp,fZ]
 exact Ww
theorem Nz (r:ah):(oo r).bC (fun _=>True):=by
 unfold oo
 try simp only [bp,fZ]
 exact Bu
def yB r:=kp tok mixed Tryz.func30 [av r.cells] (fun x=>iv x) true (Vb r) (u0 (Nz r)) (Kq r)
def pS (r:ah):Sk (Int) :=
 .br (decide (((r.bV.length:Nat):Int) > 100))
 (.fin 6)
 (.bind true (fun b1=>r.dg)
 (.loop (default:Sum (Int) (Unit)) (fun i2=>i2≤r.bV.length∧(∀ i,i < i2→(1≤(r.bV.getD i default).num∧(r.bV.getD i default).num≤1073741824)∧1≤(r.bV.getD i default).den∧(r.bV.getD i default).den≤1073741824)) (fun i2=>r.bV.length - i2) (0:Nat)
 (fun (i2:Nat)=>⟨[(3,iv (i2:Int))],[]⟩) fun i2 =>
 .lt 1 6 i2 r.bV.length
 (.r 6 (.p (bU (i2:Int) r.bV.length)) fun _ =>
 .r 7 (.dep ((bp ((r.bV.getD i2 default).from_) 0 (ar (((r.cz.length:Nat):Int) - 1))).c) fun x3=>.wh (!x3) false ((bp ((r.bV.getD i2 default).cM) 0 (ar (((r.cz.length:Nat):Int) - 1))).c)) fun p9 =>
 .br (((!p9.1)||(!p9.2))||(((r.bV.getD i2 default).from_) == ((r.bV.getD i2 default).cM)))
 (.fin (.inl (.inl 1)))
 (.r 9 (.dep ((bp ((r.bV.getD i2 default).num) 1 1073741824).c) fun x5=>.dep (.wh (!x5) false ((bp ((r.bV.getD i2 default).den) 1 1073741824).c)) fun x6=>.wh ((!x5)||(!x6)) false ((bp ((r.bV.getD i2 default).since) 0 100000).c)) fun p8 =>
 .br (((!p8.1)||(!p8.2.1))||(!p8.2.2))
 (.fin (.inl (.inl 1)))
 (.nx 5 3 i2 (i2+1))))
 (.fin (.inl (.inr ()))))
 (fun (_:Unit)=>⟨[],[]⟩) fun _ =>
 .br (decide (((r.eR.length:Nat):Int) > 20))
 (.fin 6)
 (.bind true (fun b10=>r.eM)
 (.loop (default:Sum (Int) (Unit)) (fun i11=>i11≤r.eR.length∧(∀ i,i < i11→(r.eR.getD i default).cM≤100000)) (fun i11=>r.eR.length - i11) (0:Nat)
 (fun (i11:Nat)=>⟨[(5,iv (i11:Int))],[]⟩) fun i11 =>
 .lt 1 7 i11 r.eR.length
 (.r 16 (.p (bU (i11:Int) r.eR.length)) fun _ =>
 .r 17 (.dep ((bp ((r.eR.getD i11 default).order) 0 (ar (((r.aE.length:Nat):Int) - 1))).c) fun x12=>.wh (!x12) false ((bp ((r.eR.getD i11 default).from_) 0 ((r.eR.getD i11 default).cM)).c)) fun Mn =>
 .br (((!Mn.1)||(!Mn.2))||(decide (((r.eR.getD i11 default).cM) > 100000)))
 (.fin (.inl (.inl 1)))
 (.nx 15 5 i11 (i11+1)))
 (.fin (.inl (.inr ()))))
 (fun (_:Unit)=>⟨[],[]⟩) fun _ =>
 .fin 0))
def Xf r:=(pS r).val
theorem NA (r:ah):(pS r).dj (fun (x:Int)=>x=0→r.bV.length≤100∧r.eR.length≤20∧r.dg∧r.eM):=by
 unfold pS
 try simp only [bp,fZ,ah.eM,ah.dg]
 exact Ww
theorem PC (r:ah):(pS r).bC (fun _=>True):=by
 unfold pS
 try simp only [bp,fZ,ah.eM,ah.dg]
 exact Bu
def AO r:=kp tok mixed Tryz.func31 [av r.cells] (fun x=>iv x) true (Xf r) (u0 (PC r)) (NA r)
def so (r:ah):Sk (Int) :=
 .r 1 ((AM r).c) fun x1 =>
 .bind false (fun b2=>b2=0→r.cz.length≤8∧r.aN.length≤40∧r.gh.length≤20∧r.bu.length≤200∧r.im)
 (.br (x1 == 0)
 (.r 3 ((CN r).c) fun x3 =>
 .fin (.inr x3))
 (.fin (.inr x1)))
 (fun (b2:Int)=>⟨[(3,iv b2)],[]⟩) fun b2 =>
 .bind false (fun b4=>b4=0→r.cz.length≤8∧r.aN.length≤40∧r.gh.length≤20∧r.bu.length≤200∧r.im∧r.cj∧r.aE.length≤20∧(∀ i,i < r.aE.length→(r.aE.getD i default).ba.length≤22∧(r.aE.getD i default).rules.length≤22))
 (.br (b2 == 0)
 (.r 5 ((AN r).c) fun x5 =>
 .fin (.inr x5))
 (.fin (.inr b2)))
 (fun (b4:Int)=>⟨[(3,iv b4)],[]⟩) fun b4 =>
 .bind false (fun b6=>b6=0→r.cz.length≤8∧r.aN.length≤40∧r.gh.length≤20∧r.bu.length≤200∧r.im∧r.cj∧r.aE.length≤20∧(∀ i,i < r.aE.length→(r.aE.getD i default).ba.length≤22∧(r.aE.getD i default).rules.length≤22)∧r.bg.length≤100)
 (.br (b4 == 0)
 (.r 7 ((yB r).c) fun x7 =>
 .fin (.inr x7))
 (.fin (.inr b4)))
 (fun (b6:Int)=>⟨[(3,iv b6)],[]⟩) fun b6 =>
 .br (b6 == 0)
 (.r 9 ((AO r).c) fun x8 =>
 .fin x8)
 (.fin b6)
def ZF r:=(so r).val
theorem PD (r:ah):(so r).dj (fun (x:Int)=>x=0→r.cz.length≤8∧r.aN.length≤40∧r.gh.length≤20∧r.bu.length≤200∧r.im∧r.cj∧r.aE.length≤20∧(∀ i,i < r.aE.length→(r.aE.getD i default).ba.length≤22∧(r.aE.getD i default).rules.length≤22)∧r.bg.length≤100∧r.bV.length≤100∧r.eR.length≤20∧r.dg∧r.eM):=by
 refine Sk.bz _ ?_
 unfold so
 simp only [Sk.de,Sk.aI,reduceCtorEq,ON,kk,kp,AM,CN,AN,AO,yB,maxLen]
 intro x _ hx
 refine ⟨⟨fun h y _ hy h0=>?_,fun h h0=>?_⟩,fun b _ hb=>⟨⟨fun h y _ hy h0=>?_,fun h h0=>?_⟩,fun b2 _ GK=>⟨⟨fun h y _ hy h0=>?_,fun h h0=>?_⟩,fun b3 _ Z0=>⟨fun h y _ hy h0=>?_,fun h h0=>?_⟩⟩⟩⟩
 ·have hx:=hx (by simpa using h); have hy:=hy hx.2 h0; exact ⟨hx.1,hx.2,hy⟩
 ·rw [h0] at h; exact absurd h (by decide)
 ·have hb:=hb (by simpa using h); exact ⟨hb.1,hb.2.1,hb.2.2.1,hb.2.2.2.1,hb.2.2.2.2,hy h0⟩
 ·rw [h0] at h; exact absurd h (by decide)
 ·have hb:=GK (by simpa using h); exact ⟨hb.1,hb.2.1,hb.2.2.1,hb.2.2.2.1,hb.2.2.2.2.1,hb.2.2.2.2.2.1,hb.2.2.2.2.2.2.1,hb.2.2.2.2.2.2.2,hy h0⟩
 ·rw [h0] at h; exact absurd h (by decide)
 ·have hb:=Z0 (by simpa using h); exact ⟨hb.1,hb.2.1,hb.2.2.1,hb.2.2.2.1,hb.2.2.2.2.1,hb.2.2.2.2.2.1,hb.2.2.2.2.2.2.1,hb.2.2.2.2.2.2.2.1,hb.2.2.2.2.2.2.2.2,hy h0⟩
 ·rw [h0] at h; exact absurd h (by decide)
theorem Sq (r:ah):(so r).bC (fun _=>True):=by
 refine Sk.aR _ ?_
 unfold so
 simp only [Sk.ju,Sk.aI,reduceCtorEq,ON,kk,kp,AM,CN,AN,AO,yB,maxLen]
 intro x _ hx
 refine ⟨⟨fun h y _ hy h0=>?_,fun h h0=>?_⟩,fun b _ hb=>⟨⟨fun h y _ hy h0=>?_,fun h h0=>?_⟩,fun b2 _ GK=>⟨fun h y _ hy h0=>?_,fun h h0=>?_⟩⟩⟩
 ·have hx:=hx (by simpa using h); have hy:=hy hx.2 h0; exact ⟨hx.1,hx.2,hy⟩
 ·rw [h0] at h; exact absurd h (by decide)
 ·have hb:=hb (by simpa using h); exact ⟨hb.1,hb.2.1,hb.2.2.1,hb.2.2.2.1,hb.2.2.2.2,hy h0⟩
 ·rw [h0] at h; exact absurd h (by decide)
 ·have hb:=GK (by simpa using h); exact ⟨hb.1,hb.2.1,hb.2.2.1,hb.2.2.2.1,hb.2.2.2.2.1,hb.2.2.2.2.2.1,hb.2.2.2.2.2.2.1,hb.2.2.2.2.2.2.2,hy h0⟩
 ·rw [h0] at h; exact absurd h (by decide)
def CO r:=kp tok mixed Tryz.func14 [av r.cells] (fun x=>iv x) true (ZF r) (u0 (Sq r)) (PD r)
def wR (r:ah) (files:List ak) (aq:List cS) (az:List Move):Sk (Bool) :=
 .r 1 (.dep ((Ih r files aq az).c) fun x1=>.wh x1 true ((CO r).c)) fun p3 =>
 .fin (p3.1&&(p3.2 == 0))
def acX r files aq az:=(wR r files aq az).val
theorem Vc (r:ah) (files:List ak) (aq:List cS) (az:List Move):(wR r files aq az).dj (fun (x:Bool)=>x=true→r.Small∧r.cj∧r.im∧r.dg∧r.bu.length≤200∧(files.length≤50→∀ q,q < files.length→(files.getD q default).Small)):=by
 refine Sk.bz _ ?_
 unfold wR
 simp only [Sk.de,Sk.aI,reduceCtorEq,ON,kk,kp,CO,Ih,maxLen]
 intro x _ hx hc
 simp only [LN] at hc
 obtain ⟨a1,a2,a3,a4,a5,a6,a7,a8,a9,b1,b2,b3,b4⟩:=hx.2 hc.2
 exact ⟨(hx.1 hc.1).1,a6,a5,b3,a4,(hx.1 hc.1).2⟩
theorem Xg (r:ah) (files:List ak) (aq:List cS) (az:List Move):(wR r files aq az).bC (fun _=>True):=by
 refine Sk.aR _ ?_
 unfold wR
 simp only [Sk.ju,Sk.aI,reduceCtorEq,ON,kk,kp,CO,Ih,maxLen]
def Ij r files aq az:=kp tok mixed Tryz.func5 [av r.cells,lv ak.cells files,lv cS.cells aq,lv Move.cells az] (fun x=>bv x) true (acX r files aq az) (u0 (Xg r files aq az)) (Vc r files aq az)
def uc (f:ak) (kind:Int) (at_:Int):Sk (aJ) :=
 .bt
 (.loop (default:Sum (aJ) (Unit)) (fun i2=>i2≤f.facts.length) (fun i2=>f.facts.length - i2) (0:Nat)
 (fun (i2:Nat)=>⟨[(7,iv (i2:Int))],[]⟩) fun i2 =>
 .lt 3 18 i2 f.facts.length
 (.r 4 (.aj (.p (bU (i2:Int) f.facts.length)) (.wh (((f.facts.getD i2 default).kind) == kind) true (.p (bU (i2:Int) f.facts.length)))) fun _ =>
 .br ((((f.facts.getD i2 default).kind) == kind)&&(((f.facts.getD i2 default).at_) == at_))
 (.r 5 (.p (bU (i2:Int) f.facts.length)) fun _ =>
 .br (((f.facts.getD i2 default).n) == 0)
 (.fin (.inl (.inl ({ known:=true,n:=0 }:aJ))))
 (.fin (.inl (.inl ({ known:=true,n:=1 }:aJ)))))
 (.nx 3 7 i2 (i2+1)))
 (.fin (.inl (.inr ()))))
 (fun (_:Unit)=>⟨[],[]⟩) fun _ =>
 .fin ({ known:=false,n:=0 }:aJ)
def GD f kind at_:=(uc f kind at_).val
theorem Vd (f:ak) (kind:Int) (at_:Int):(uc f kind at_).bC (fun _=>True):=by
 unfold uc
 exact mA
def EV f kind at_:=kk tok mixed Tryz.func17 [av f.cells,iv kind,iv at_] (fun x=>av x.cells) true (uc f kind at_) (GD f kind at_) (u0 (Vd f kind at_))
def ud (f:ak) (x_:Fact):Sk (ak) :=
 .r 1 ((EV f x_.kind x_.at_).c) fun x1 =>
 .br x1.known
 (.fin f)
 (.bind true (fun b2=>b2.length≤0+f.facts.length)
 (.loop (default:Sum (ak) ((List Fact))) (fun i3=>i3.2≤f.facts.length∧i3.1.length≤0+i3.2) (fun i3=>f.facts.length - i3.2) (([],0):(List Fact) × Nat)
 (fun (i3:(List Fact) × Nat)=>⟨[(5,ow 100002 i3.1),(6,iv (i3.2:Int))],[(100002,bw 53 3 Fact.cells i3.1)]⟩) fun i3 =>
 .lt 2 18 i3.2 f.facts.length
 (.r 7 (.p (bU (i3.2:Int) f.facts.length)) fun _ =>
 .br ((decide (((f.facts.getD i3.2 default).at_) < x_.at_))||((((f.facts.getD i3.2 default).at_) == x_.at_)&&(decide (((f.facts.getD i3.2 default).kind) < x_.kind))))
 (.r 9 (.aj (.o [.eG (fm Fact.E [f.facts.getD i3.2 default])]) (.aj (.o [.eG (mY Fact.E i3.1 [f.facts.getD i3.2 default])]) (.aj (.t (Fact.E.ou [f.facts.getD i3.2 default])) (.p (yE i3.1.length [f.facts.getD i3.2 default].length 24))))) fun _ =>
 .nx 6 6 i3.2 (i3.1++[f.facts.getD i3.2 default],i3.2+1))
 (.nx 6 6 i3.2 (i3.1,i3.2+1)))
 (.fin (.inl (.inr i3.1))))
 (fun (b2:(List Fact))=>⟨[(5,ow 100001 b2)],[(100001,bw 53 3 Fact.cells b2)]⟩) fun b2 =>
 .r 10 (.aj (.o [.eG (fm Fact.E [x_])]) (.aj (.o [.eG (mY Fact.E b2 [x_])]) (.aj (.t (Fact.E.ou [x_])) (.p (yE b2.length [x_].length 24))))) fun _ =>
 .bind true (fun b4=>b4.length≤(b2++[x_]).length+f.facts.length)
 (.loop (default:Sum (ak) ((List Fact))) (fun i5=>i5.2≤f.facts.length∧i5.1.length≤(b2++[x_]).length+i5.2) (fun i5=>f.facts.length - i5.2) ((b2++[x_],0):(List Fact) × Nat)
 (fun (i5:(List Fact) × Nat)=>⟨[(5,ow 100005 i5.1),(8,iv (i5.2:Int))],[(100005,bw 53 3 Fact.cells i5.1)]⟩) fun i5 =>
 .lt 2 18 i5.2 f.facts.length
 (.r 14 (.p (bU (i5.2:Int) f.facts.length)) fun _ =>
 .br ((decide (((f.facts.getD i5.2 default).at_) > x_.at_))||((((f.facts.getD i5.2 default).at_) == x_.at_)&&(decide (((f.facts.getD i5.2 default).kind) > x_.kind))))
 (.r 16 (.aj (.o [.eG (fm Fact.E [f.facts.getD i5.2 default])]) (.aj (.o [.eG (mY Fact.E i5.1 [f.facts.getD i5.2 default])]) (.aj (.t (Fact.E.ou [f.facts.getD i5.2 default])) (.p (yE i5.1.length [f.facts.getD i5.2 default].length 24))))) fun _ =>
 .nx 13 8 i5.2 (i5.1++[f.facts.getD i5.2 default],i5.2+1))
 (.nx 13 8 i5.2 (i5.1,i5.2+1)))
 (.fin (.inl (.inr i5.1))))
 (fun (b4:(List Fact))=>⟨[(5,ow 100004 b4)],[(100004,bw 53 3 Fact.cells b4)]⟩) fun b4 =>
 .fin ({ f with facts:=b4 }))
def pT f x_:=(ud f x_).val
theorem Ve (f:ak) (x_:Fact) (hf:f.facts.length≤1000000):(ud f x_).bC (fun _=>True):=by
 unfold ud
 try simp only [EV]
 exact mA
def EW f x_:=kk tok mixed Tryz.func7 [av f.cells,av x_.cells] (fun x=>av x.cells) false (ud f x_) (pT f x_) (Ve f x_)
def pU (s:cS) (aB:List Int) (day:Int):Sk ((List Move)) :=
 .r 1 (.o [.eG (fm Move.E [({ kind:=0,aL:=0,day:=s.day,no:=0 }:Move)])]) fun _ =>
 .bind true (fun b1=>b1=(({ kind:=0,aL:=0,day:=s.day,no:=0 }:Move) :: (aB.map fun d=>({ kind:=1,aL:=0,day:=s.day,no:=d }:Move))))
 (.loop (default:Sum ((List Move)) ((List Move))) (fun i2=>i2.2≤aB.length∧i2.1=(({ kind:=0,aL:=0,day:=s.day,no:=0 }:Move) :: ((aB.take i2.2).map fun d=>({ kind:=1,aL:=0,day:=s.day,no:=d }:Move)))) (fun i2=>aB.length - i2.2) (([({ kind:=0,aL:=0,day:=s.day,no:=0 }:Move)],0):(List Move) × Nat)
 (fun (i2:(List Move) × Nat)=>⟨[(7,ow 100002 i2.1),(8,iv (i2.2:Int))],[(100002,bw 65 4 Move.cells i2.1)]⟩) fun i2 =>
 .lt 1 0 i2.2 aB.length
 (.r 5 (.aj (.p (bU (i2.2:Int) aB.length)) (.aj (.o [.eG (fm Move.E [({ kind:=1,aL:=0,day:=s.day,no:=aB.getD i2.2 default }:Move)])]) (.aj (.o [.eG (mY Move.E i2.1 [({ kind:=1,aL:=0,day:=s.day,no:=aB.getD i2.2 default }:Move)])]) (.aj (.t (Move.E.ou [({ kind:=1,aL:=0,day:=s.day,no:=aB.getD i2.2 default }:Move)])) (.p (yE i2.1.length [({ kind:=1,aL:=0,day:=s.day,no:=aB.getD i2.2 default }:Move)].length 32)))))) fun _ =>
 .nx 4 8 i2.2 (i2.1++[({ kind:=1,aL:=0,day:=s.day,no:=aB.getD i2.2 default }:Move)],i2.2+1))
 (.fin (.inl (.inr i2.1))))
 (fun (b1:(List Move))=>⟨[(7,ow 100001 b1)],[(100001,bw 65 4 Move.cells b1)]⟩) fun b1 =>
 .r 6 (.aj (.o [.eG (fm Move.E [({ kind:=4,aL:=0,day:=day,no:=0 }:Move)])]) (.aj (.o [.eG (mY Move.E b1 [({ kind:=4,aL:=0,day:=day,no:=0 }:Move)])]) (.aj (.t (Move.E.ou [({ kind:=4,aL:=0,day:=day,no:=0 }:Move)])) (.p (yE b1.length [({ kind:=4,aL:=0,day:=day,no:=0 }:Move)].length 32))))) fun _ =>
 .fin (b1++[({ kind:=4,aL:=0,day:=day,no:=0 }:Move)])
def AP s aB day:=(pU s aB day).val
theorem CP (s:cS) (aB:List Int) (day:Int):(pU s aB day).dj (fun (x:(List Move))=>x=(({ kind:=0,aL:=0,day:=s.day,no:=0 }:Move) :: (aB.map fun d=>({ kind:=1,aL:=0,day:=s.day,no:=d }:Move)))++[({ kind:=4,aL:=0,day:=day,no:=0 }:Move)]):=by
 refine Sk.bz _ ?_
 unfold pU
 simp only [Sk.de,Sk.aI,reduceCtorEq,ON,kk,kp,maxLen]
 all_goals simp only [LN] at *
 refine fun _=>⟨⟨⟨Nat.zero_le _,rfl⟩,fun i hi=>⟨fun hc _ _=>⟨⟨by omega,?_⟩,by omega⟩,fun hc=>?_⟩⟩,fun b hb _=>by rw [hb]⟩
 ·rw [qV (by omega),List.map_append,← List.cons_append,← hi.2]; rfl
 ·rw [hi.2,List.take_of_length_le (by omega)]
theorem Ba (s:cS) (aB:List Int) (day:Int):(fun (x:(List Move))=>x=(({ kind:=0,aL:=0,day:=s.day,no:=0 }:Move) :: (aB.map fun d=>({ kind:=1,aL:=0,day:=s.day,no:=d }:Move)))++[({ kind:=4,aL:=0,day:=day,no:=0 }:Move)]) (AP s aB day):=have h:=Sk.dk _ (CP s aB day); h
theorem PE (s:cS) (aB:List Int) (day:Int) (hd:aB.length≤100):(pU s aB day).bC (fun _=>True):=by
 refine Sk.aR _ ?_
 unfold pU
 simp only [Sk.ju,Sk.aI,reduceCtorEq,ON,kk,kp,maxLen]
 all_goals simp only [LN] at *
 refine fun _=>⟨⟨⟨Nat.zero_le _,rfl⟩,fun i hi _=>⟨fun hc=>⟨⟨⟨by omega,by omega⟩,?_⟩,fun _ _=>⟨?_,⟨by omega,?_⟩,by omega⟩⟩,fun hc=>?_⟩⟩,fun b hb=>?_⟩
 ·have:i.1.length≤101:=by rw [hi.2,List.length_cons,List.length_map,List.length_take]; omega
  omega
 ·rw [aA (by omega) (by omega)]; omega
 ·rw [qV (by omega),List.map_append,← List.cons_append,← hi.2]; rfl
 ·rw [hi.2,List.take_of_length_le (by omega)]
 ·have:b.length≤101:=by rw [hb,List.length_cons,List.length_map]; omega
  omega
def vp s aB day:=kp tok mixed Tryz.func9 [av s.cells,lv bI aB,iv day] (fun x=>lv Move.cells x) false (AP s aB day) (PE s aB day) (CP s aB day)
end
end Go.Proofs.YtonkchddcgcopaaGreatDoor
