/- Functions, as sketches. -/
import Derived.Test.YtonkchddcgcopaaGreatDoorSg
set_option linter.unusedSimpArgs false
set_option linter.unusedVariables false
set_option maxHeartbeats 1000000
set_option maxRecDepth 100000
namespace Go.Proofs.YtonkchddcgcopaaGreatDoor
noncomputable section
open Go Go.Av
/-- half a UI: I5 agT in two aeF,I5 first one adK; a digit follows -/
def HY (y1 y0 u d:Int):Prop:=(2147483648≤y1∧y1 < 4294967296)∧(0≤y0∧y0 < 4294967296)∧(0≤u∧u < y1 * 4294967296+y0)∧0≤d∧d < 4294967296
/-- a quotient VP may be too adK -/
def HI (y1 y0 u d q r:Int):Prop:=(0≤q∧q < 18446744073709551616)∧q * y1+r=u∧(0≤r∧r < 4294967296)∧u * 4294967296+d < 4294967296 * (q * y1)+4294967296 * y1+q * y0+y0
/-- I5 quotient -/
def HQ (y1 y0 u d q:Int):Prop:=(0≤q∧q < 4294967296)∧4294967296 * (q * y1)+q * y0≤u * 4294967296+d∧u * 4294967296+d < 4294967296 * (q * y1)+4294967296 * y1+q * y0+y0
theorem De {y1 y0 u d:Int} (h:HY y1 y0 u d):HI y1 y0 u d (IntKind.u64.wrap (u.tdiv y1)) (IntKind.u64.wrap (u - IntKind.u64.wrap (IntKind.u64.wrap (u.tdiv y1) * y1))):=by
  obtain ⟨h1,h2,h3,h4⟩:=h
  have e:u.tdiv y1=u / y1:=Int.tdiv_eq_ediv_of_nonneg h3.1
  have q0:0≤u / y1:=Int.ediv_nonneg h3.1 (by omega)
  have q1:u / y1≤u:=Int.ediv_le_self _ h3.1
  have m1:=Int.mul_ediv_add_emod u y1
  have m2:=Int.emod_nonneg u (b:=y1) (by omega)
  have m3:=Int.emod_lt_of_pos u (b:=y1) (by omega)
  rw [e,eu q0 (by omega)]
  rw [Int.mul_comm y1] at m1
  rw [eu (n:=u / y1 * y1) (Int.mul_nonneg q0 (by omega)) (by omega),eu (by omega) (by omega)]
  have:=Int.mul_nonneg q0 h2.1
  refine ⟨⟨q0,by omega⟩,by omega,⟨by omega,by omega⟩,by omega⟩
theorem Qk {y1 y0 u d q r:Int} (h:HY y1 y0 u d) (hi:HI y1 y0 u d q r):(decide (q≥4294967296)||decide (IntKind.u64.wrap (q * y0) > IntKind.u64.wrap (IntKind.u64.wrap (4294967296 * r)+d)))=decide (q≥4294967296∨q * y0 > 4294967296 * r+d):=by
  obtain ⟨h1,h2,h3,h4⟩:=h
  obtain ⟨i1,i2,i3,i4⟩:=hi
  rw [eu (n:=4294967296 * r) (by omega) (by omega),eu (n:=4294967296 * r+d) (by omega) (by omega)]
  by_cases c:q≥4294967296
  · simp [c]
  · have a:q * y0≤4294967295 * y0:=Int.mul_le_mul_of_nonneg_right (by omega) h2.1
    rw [eu (n:=q * y0) (Int.mul_nonneg i1.1 h2.1) (by omega)]
    simp [c]
theorem Df {y1 y0 u d q r:Int} (h:HY y1 y0 u d) (hi:HI y1 y0 u d q r) (hc:(decide (q≥4294967296)||decide (IntKind.u64.wrap (q * y0) > IntKind.u64.wrap (IntKind.u64.wrap (4294967296 * r)+d)))=true) :
    (IntKind.u64.wrap (q - 1)).toNat < q.toNat∧(IntKind.u64.wrap (r+y1)≥4294967296→HQ y1 y0 u d (IntKind.u64.wrap (q - 1)))∧(IntKind.u64.wrap (r+y1) < 4294967296→HI y1 y0 u d (IntKind.u64.wrap (q - 1)) (IntKind.u64.wrap (r+y1))):=by
  rw [Qk h hi,decide_eq_true_eq] at hc
  obtain ⟨h1,h2,h3,h4⟩:=h
  obtain ⟨i1,i2,i3,i4⟩:=hi
  have hy:u * 4294967296+d < 4294967296 * (q * y1)+q * y0:=by
    rcases hc with c | c
    · have a:4294967296 * y1≤q * y1:=Int.mul_le_mul_of_nonneg_right c (by omega)
      have b:4294967296 * y0≤q * y0:=Int.mul_le_mul_of_nonneg_right c h2.1
      omega
    · omega
  have hq:1≤q:=by
    rcases Int.lt_or_le q 1 with c | c
    · obtain rfl:q=0:=by omega
      simp only [Int.zero_mul] at hy i2
      omega
    · exact c
  have e1:(q - 1) * y1=q * y1 - y1:=by rw [Int.sub_mul,Int.one_mul]
  have e0:(q - 1) * y0=q * y0 - y0:=by rw [Int.sub_mul,Int.one_mul]
  rw [eu (n:=q - 1) (by omega) (by omega),eu (n:=r+y1) (by omega) (by omega)]
  refine ⟨by omega,fun hr=>?_,fun hr=>?_⟩
  · have hB:q - 1 < 4294967296:=by
      rcases Int.lt_or_le (q - 1) 4294967296 with c | c
      · exact c
      · have a:4294967296 * y1≤(q - 1) * y1:=Int.mul_le_mul_of_nonneg_right c (by omega)
        omega
    have a:(q - 1) * y0≤4294967295 * y0:=Int.mul_le_mul_of_nonneg_right (by omega) h2.1
    refine ⟨⟨by omega,hB⟩,?_,?_⟩
    · rw [e1]; omega
    · rw [e1,e0]; omega
  · refine ⟨⟨by omega,by omega⟩,by rw [e1]; omega,⟨by omega,hr⟩,by rw [e1,e0]; omega⟩
theorem Dg {y1 y0 u d q r:Int} (h:HY y1 y0 u d) (hi:HI y1 y0 u d q r) (hc:(decide (q≥4294967296)||decide (IntKind.u64.wrap (q * y0) > IntKind.u64.wrap (IntKind.u64.wrap (4294967296 * r)+d)))=false):HQ y1 y0 u d q:=by
  rw [Qk h hi,decide_eq_false_iff_not] at hc
  obtain ⟨i1,i2,i3,i4⟩:=hi
  exact ⟨by omega,by omega,i4⟩
/-- YA is left -/
theorem zx {y1 y0 u d q:Int} (h:HY y1 y0 u d) (hq:HQ y1 y0 u d q):IntKind.u64.wrap (IntKind.u64.wrap (IntKind.u64.wrap (u * 4294967296)+d) - IntKind.u64.wrap (q * (y1 * 4294967296+y0)))=u * 4294967296+d - q * (y1 * 4294967296+y0)∧0≤u * 4294967296+d - q * (y1 * 4294967296+y0)∧u * 4294967296+d - q * (y1 * 4294967296+y0) < y1 * 4294967296+y0:=by
  obtain ⟨h1,h2,h3,h4⟩:=h
  obtain ⟨i1,i2,i3⟩:=hq
  have e:q * (y1 * 4294967296+y0)=4294967296 * (q * y1)+q * y0:=by rw [Int.mul_add,← Int.mul_assoc,Int.mul_comm (q * y1)]
  refine ⟨?_,by omega,by omega⟩
  simp only [LH]
  omega
theorem aeG {k:Nat} {q b:Int} (hq:0≤q) (hb:0≤b) (GH:b < 2 ^ k) (ha:q * 2 ^ k+b < 18446744073709551616):VK .u64 (q * 2 ^ k) b=q * 2 ^ k+b:=by
  obtain ⟨q,rfl⟩:=Int.eq_ofNat_of_zero_le hq
  obtain ⟨b,rfl⟩:=Int.eq_ofNat_of_zero_le hb
  have e:((q:Int) * 2 ^ k)=((q * 2 ^ k:Nat):Int):=by simp
  have ZX:b < 2 ^ k:=by
    have e2:((2:Int) ^ k)=((2 ^ k:Nat):Int):=by simp
    rw [e2] at GH
    exact_mod_cast GH
  rw [e] at ha ⊢
  unfold VK
  have gH:q * 2 ^ k+b < 18446744073709551616:=by omega
  have h1:(BitVec.ofInt IntKind.u64.bits ((q * 2 ^ k:Nat):Int) ||| BitVec.ofInt IntKind.u64.bits ((b:Nat):Int)).toNat=q * 2 ^ k+b:=by
    rw [BitVec.toNat_or,BitVec.ofInt_natCast,BitVec.ofInt_natCast,BitVec.toNat_ofNat,BitVec.toNat_ofNat]
    have hb:IntKind.u64.bits=64:=rfl
    rw [hb,Nat.mod_eq_of_lt (by omega),Nat.mod_eq_of_lt (by omega),← Nat.shiftLeft_eq,← Nat.shiftLeft_add_eq_or_of_lt ZX,Nat.shiftLeft_eq]
  rw [h1,eu (by omega) (by omega)]
  omega
theorem KF {a:Int} (h0:0≤a) (h1:a < 18446744073709551616):eJ .u64 a 4294967295=a % 4294967296:=by
  obtain ⟨a,rfl⟩:=Int.eq_ofNat_of_zero_le h0
  unfold eJ
  have h2:(BitVec.ofInt IntKind.u64.bits ((a:Nat):Int) &&& BitVec.ofInt IntKind.u64.bits 4294967295).toNat=a % 4294967296:=by
    have e:(4294967295:Int)=((4294967295:Nat):Int):=rfl
    rw [e,BitVec.toNat_and,BitVec.ofInt_natCast,BitVec.ofInt_natCast,BitVec.toNat_ofNat,BitVec.toNat_ofNat]
    have hb:IntKind.u64.bits=64:=rfl
    rw [hb,Nat.mod_eq_of_lt (by omega),Nat.mod_eq_of_lt (by omega)]
    exact Nat.and_two_pow_sub_one_eq_mod a 32
  rw [h2,eu (by omega) (by omega)]
  omega
/-- I5 parts of a UI,made adK -/
theorem Ql {hi lo y s:Int} (hy:0≤hi∧hi < y∧y < 18446744073709551616∧0≤lo∧lo < 18446744073709551616) (hs:0≤s∧s≤63∧9223372036854775808≤y * 2 ^ s.toNat∧y * 2 ^ s.toNat < 18446744073709551616) :
    ∃ U L:Int,VK .u64 (gb .u64 hi (IntKind.u64.wrap s)) (ep .u64 lo (IntKind.u64.wrap ((64:Int) - IntKind.u64.wrap s)))=U∧gb .u64 lo (IntKind.u64.wrap s)=L∧gb .u64 y (IntKind.u64.wrap s)=y * 2 ^ s.toNat ∧
      (0≤L∧L < 18446744073709551616)∧(0≤U∧U < y * 2 ^ s.toNat)∧(hi * 18446744073709551616+lo) * 2 ^ s.toNat=U * 18446744073709551616+L:=by
  obtain ⟨h1,h2,h3,h4,h5⟩:=hy
  obtain ⟨s1,s2,s3,s4⟩:=hs
  have ew:IntKind.u64.wrap s=s:=eu s1 (by omega)
  have ew2:IntKind.u64.wrap (64 - s)=64 - s:=eu (by omega) (by omega)
  rw [ew,ew2,Ws (by omega),Ws (by omega),Ws (by omega),G5 .u64 (b:=64 - s) (by show 0≤64 - s∧64 - s≤64; omega)]
  generalize hp:(2:Int) ^ s.toNat=p at *
  have hP:(18446744073709551616:Int)=2 ^ (64 - s).toNat * p:=by rw [← hp,← Int.pow_add,show (64 - s).toNat+s.toNat=64 by omega]; rfl
  generalize hq:(2:Int) ^ (64 - s).toNat=P at *
  have p0:0 < p:=by rw [← hp]; exact Int.pow_pos (by omega)
  have P0:0 < P:=by rw [← hq]; exact Int.pow_pos (by omega)
  have hip:hi * p≤(y - 1) * p:=Int.mul_le_mul_of_nonneg_right (by omega) (by omega)
  have ah8:0≤hi * p:=Int.mul_nonneg h1 (by omega)
  have e1:(y - 1) * p=y * p - p:=by rw [Int.sub_mul,Int.one_mul]
  have b0:0≤lo / P:=Int.ediv_nonneg h4 (by omega)
  have b1:lo / P < p:=by
    rw [Int.ediv_lt_iff_lt_mul P0,Int.mul_comm]
    omega
  have eh:hi * p % 18446744073709551616=hi * p:=Int.emod_eq_of_lt ah8 (by omega)
  have ey:y * p % 18446744073709551616=y * p:=Int.emod_eq_of_lt (by omega) s4
  have el:lo * p / 18446744073709551616=lo / P:=by rw [hP]; exact Int.mul_ediv_mul_of_pos_left _ _ p0
  have hor:VK .u64 (hi * p) (lo / P)=hi * p+lo / P:=by
    rw [← hp]
    exact aeG h1 b0 (by rw [hp]; exact b1) (by rw [hp]; omega)
  refine ⟨hi * p+lo / P,lo * p % 18446744073709551616,by rw [eh]; exact hor,rfl,ey,⟨by omega,by omega⟩,⟨by omega,by omega⟩,?_⟩
  have m:=Int.mul_ediv_add_emod (lo * p) 18446744073709551616
  rw [el] at m
  have e2:(hi * 18446744073709551616+lo) * p=hi * p * 18446744073709551616+lo * p:=by rw [Int.add_mul,Int.mul_right_comm]
  rw [e2]
  omega
/-- I5 whole UI out of its aeF -/
theorem Zt {N y p U L q1 q0:Int} (hy:0 < y) (hp:0 < p) (hY:9223372036854775808≤y * p∧y * p < 18446744073709551616) (hL:0≤L∧L < 18446744073709551616) (hU:0≤U∧U < y * p) (hN:N * p=U * 18446744073709551616+L)
    (h1:HQ (y * p / 4294967296) (y * p % 4294967296) U (L / 4294967296) q1)
    (h0:HQ (y * p / 4294967296) (y * p % 4294967296) (U * 4294967296+L / 4294967296 - q1 * (y * p)) (L % 4294967296) q0) :
    IntKind.u64.wrap (IntKind.u64.wrap (q1 * 4294967296)+q0)=N / y ∧
      ((U * 4294967296+L / 4294967296 - q1 * (y * p)) * 4294967296+L % 4294967296 - q0 * (y * p)) / p=N % y:=by
  have eY:y * p / 4294967296 * 4294967296+y * p % 4294967296=y * p:=by omega
  have X9:HY (y * p / 4294967296) (y * p % 4294967296) U (L / 4294967296):=⟨⟨by omega,by omega⟩,⟨by omega,by omega⟩,⟨by omega,by omega⟩,by omega,by omega⟩
  have r1:=zx X9 h1
  rw [eY] at r1
  have VX:HY (y * p / 4294967296) (y * p % 4294967296) (U * 4294967296+L / 4294967296 - q1 * (y * p)) (L % 4294967296):=⟨⟨by omega,by omega⟩,⟨by omega,by omega⟩,⟨by omega,by omega⟩,by omega,by omega⟩
  have r0:=zx VX h0
  rw [eY] at r0
  have i1:=h1.1
  have i0:=h0.1
  rw [eu (n:=q1 * 4294967296) (by omega) (by omega),eu (by omega) (by omega)]
  generalize hR:(U * 4294967296+L / 4294967296 - q1 * (y * p)) * 4294967296+L % 4294967296 - q0 * (y * p)=R at *
  have e:(q1 * 4294967296+q0) * (y * p)=q1 * (y * p) * 4294967296+q0 * (y * p):=by rw [Int.add_mul,Int.mul_right_comm]
  have hq:N * p=(q1 * 4294967296+q0) * (y * p)+R:=by rw [e]; omega
  have hR2:R=(N - (q1 * 4294967296+q0) * y) * p:=by rw [Int.sub_mul,Int.mul_assoc]; omega
  have NZ:0≤N - (q1 * 4294967296+q0) * y:=by
    rcases Int.lt_or_le (N - (q1 * 4294967296+q0) * y) 0 with c | c
    · have:=Int.mul_neg_of_neg_of_pos c hp
      omega
    · exact c
  have gH:N - (q1 * 4294967296+q0) * y < y:=by
    rcases Int.lt_or_le (N - (q1 * 4294967296+q0) * y) y with c | c
    · exact c
    · have:=Int.mul_le_mul_of_nonneg_right c (Int.le_of_lt hp)
      omega
  have hd:N / y=q1 * 4294967296+q0:=by
    rw [Int.ediv_eq_iff_of_pos hy]
    constructor
    · omega
    · omega
  refine ⟨hd.symm,?_⟩
  rw [hR2,Int.mul_ediv_cancel _ (by omega),Int.emod_def,hd,Int.mul_comm y]
def mR (hi:Int) (lo:Int) (y:Int):Sk (Int × Int) :=
 .bind false (fun _=>True)
 (.br (y == 0)
 (.dead default)
 (.fin (.inr ())))
 (fun (_:Unit)=>⟨[],[]⟩) fun _ =>
 .bind false (fun _=>True)
 (.br (decide (y≤hi))
 (.dead default)
 (.fin (.inr ())))
 (fun (_:Unit)=>⟨[],[]⟩) fun _ =>
 .br (hi == 0)
 (.r 6 (.aj (.p (y≠0)) (.p (y≠0))) fun _ =>
 .fin (IntKind.u64.wrap (lo.tdiv y),lo.tmod y))
 (.r 7 ((m4 y).c) fun x3 =>
 .r 8 (.p (0≤(IntKind.u64.wrap (x3)))) fun _ =>
 .r 9 (.p (0≤(32:Int))) fun _ =>
 .r 11 (.aj (.p (0≤(IntKind.u64.wrap (x3)))) (.p (0≤(IntKind.u64.wrap ((64:Int) - (IntKind.u64.wrap (x3))))))) fun _ =>
 .r 12 (.p (0≤(IntKind.u64.wrap (x3)))) fun _ =>
 .r 13 (.p (0≤(32:Int))) fun _ =>
 .r 15 (.p ((ep .u64 (gb .u64 y (IntKind.u64.wrap (x3))) 32)≠0)) fun _ =>
 .bind true (fun b4=>HQ (ep .u64 (gb .u64 y (IntKind.u64.wrap (x3))) 32) (eJ .u64 (gb .u64 y (IntKind.u64.wrap (x3))) 4294967295) (VK .u64 (gb .u64 hi (IntKind.u64.wrap (x3))) (ep .u64 lo (IntKind.u64.wrap ((64:Int) - (IntKind.u64.wrap (x3)))))) (ep .u64 (gb .u64 lo (IntKind.u64.wrap (x3))) 32) b4.1)
 (.loop (default:Sum (Int × Int) (Int × Int)) (fun i5=>HI (ep .u64 (gb .u64 y (IntKind.u64.wrap (x3))) 32) (eJ .u64 (gb .u64 y (IntKind.u64.wrap (x3))) 4294967295) (VK .u64 (gb .u64 hi (IntKind.u64.wrap (x3))) (ep .u64 lo (IntKind.u64.wrap ((64:Int) - (IntKind.u64.wrap (x3)))))) (ep .u64 (gb .u64 lo (IntKind.u64.wrap (x3))) 32) i5.1 i5.2) (fun i5=>i5.1.toNat) ((IntKind.u64.wrap ((VK .u64 (gb .u64 hi (IntKind.u64.wrap (x3))) (ep .u64 lo (IntKind.u64.wrap ((64:Int) - (IntKind.u64.wrap (x3)))))).tdiv (ep .u64 (gb .u64 y (IntKind.u64.wrap (x3))) 32)),IntKind.u64.wrap ((VK .u64 (gb .u64 hi (IntKind.u64.wrap (x3))) (ep .u64 lo (IntKind.u64.wrap ((64:Int) - (IntKind.u64.wrap (x3)))))) - (IntKind.u64.wrap ((IntKind.u64.wrap ((VK .u64 (gb .u64 hi (IntKind.u64.wrap (x3))) (ep .u64 lo (IntKind.u64.wrap ((64:Int) - (IntKind.u64.wrap (x3)))))).tdiv (ep .u64 (gb .u64 y (IntKind.u64.wrap (x3))) 32))) * (ep .u64 (gb .u64 y (IntKind.u64.wrap (x3))) 32))))):Int × Int)
 (fun (i5:Int × Int)=>⟨[(15,.d (.v (.int .u64 i5.1))),(16,.d (.v (.int .u64 i5.2)))],[]⟩) fun i5 =>
 .br ((decide (i5.1≥4294967296))||(decide ((IntKind.u64.wrap (i5.1 * (eJ .u64 (gb .u64 y (IntKind.u64.wrap (x3))) 4294967295))) > (IntKind.u64.wrap ((IntKind.u64.wrap ((4294967296:Int) * i5.2))+(ep .u64 (gb .u64 lo (IntKind.u64.wrap (x3))) 32))))))
 (.br (decide ((IntKind.u64.wrap (i5.2+(ep .u64 (gb .u64 y (IntKind.u64.wrap (x3))) 32)))≥4294967296))
 (.fin (.inl (.inr (IntKind.u64.wrap (i5.1 - 1),IntKind.u64.wrap (i5.2+(ep .u64 (gb .u64 y (IntKind.u64.wrap (x3))) 32))))))
 (.fin (.inr (IntKind.u64.wrap (i5.1 - 1),IntKind.u64.wrap (i5.2+(ep .u64 (gb .u64 y (IntKind.u64.wrap (x3))) 32))))))
 (.fin (.inl (.inr (i5.1,i5.2)))))
 (fun (b4:Int × Int)=>⟨[(15,.d (.v (.int .u64 b4.1))),(16,.d (.v (.int .u64 b4.2)))],[]⟩) fun b4 =>
 .r 22 (.p ((ep .u64 (gb .u64 y (IntKind.u64.wrap (x3))) 32)≠0)) fun _ =>
 .bind true (fun b6=>HQ (ep .u64 (gb .u64 y (IntKind.u64.wrap (x3))) 32) (eJ .u64 (gb .u64 y (IntKind.u64.wrap (x3))) 4294967295) (IntKind.u64.wrap ((IntKind.u64.wrap ((IntKind.u64.wrap ((VK .u64 (gb .u64 hi (IntKind.u64.wrap (x3))) (ep .u64 lo (IntKind.u64.wrap ((64:Int) - (IntKind.u64.wrap (x3)))))) * 4294967296))+(ep .u64 (gb .u64 lo (IntKind.u64.wrap (x3))) 32))) - (IntKind.u64.wrap (b4.1 * (gb .u64 y (IntKind.u64.wrap (x3))))))) (eJ .u64 (gb .u64 lo (IntKind.u64.wrap (x3))) 4294967295) b6)
 (.loop (default:Sum (Int × Int) (Int)) (fun i7=>HI (ep .u64 (gb .u64 y (IntKind.u64.wrap (x3))) 32) (eJ .u64 (gb .u64 y (IntKind.u64.wrap (x3))) 4294967295) (IntKind.u64.wrap ((IntKind.u64.wrap ((IntKind.u64.wrap ((VK .u64 (gb .u64 hi (IntKind.u64.wrap (x3))) (ep .u64 lo (IntKind.u64.wrap ((64:Int) - (IntKind.u64.wrap (x3)))))) * 4294967296))+(ep .u64 (gb .u64 lo (IntKind.u64.wrap (x3))) 32))) - (IntKind.u64.wrap (b4.1 * (gb .u64 y (IntKind.u64.wrap (x3))))))) (eJ .u64 (gb .u64 lo (IntKind.u64.wrap (x3))) 4294967295) i7.2 i7.1) (fun i7=>i7.2.toNat) ((IntKind.u64.wrap ((IntKind.u64.wrap ((IntKind.u64.wrap ((IntKind.u64.wrap ((VK .u64 (gb .u64 hi (IntKind.u64.wrap (x3))) (ep .u64 lo (IntKind.u64.wrap ((64:Int) - (IntKind.u64.wrap (x3)))))) * 4294967296))+(ep .u64 (gb .u64 lo (IntKind.u64.wrap (x3))) 32))) - (IntKind.u64.wrap (b4.1 * (gb .u64 y (IntKind.u64.wrap (x3))))))) - (IntKind.u64.wrap ((IntKind.u64.wrap ((IntKind.u64.wrap ((IntKind.u64.wrap ((IntKind.u64.wrap ((VK .u64 (gb .u64 hi (IntKind.u64.wrap (x3))) (ep .u64 lo (IntKind.u64.wrap ((64:Int) - (IntKind.u64.wrap (x3)))))) * 4294967296))+(ep .u64 (gb .u64 lo (IntKind.u64.wrap (x3))) 32))) - (IntKind.u64.wrap (b4.1 * (gb .u64 y (IntKind.u64.wrap (x3))))))).tdiv (ep .u64 (gb .u64 y (IntKind.u64.wrap (x3))) 32))) * (ep .u64 (gb .u64 y (IntKind.u64.wrap (x3))) 32)))),IntKind.u64.wrap ((IntKind.u64.wrap ((IntKind.u64.wrap ((IntKind.u64.wrap ((VK .u64 (gb .u64 hi (IntKind.u64.wrap (x3))) (ep .u64 lo (IntKind.u64.wrap ((64:Int) - (IntKind.u64.wrap (x3)))))) * 4294967296))+(ep .u64 (gb .u64 lo (IntKind.u64.wrap (x3))) 32))) - (IntKind.u64.wrap (b4.1 * (gb .u64 y (IntKind.u64.wrap (x3))))))).tdiv (ep .u64 (gb .u64 y (IntKind.u64.wrap (x3))) 32))):Int × Int)
 (fun (i7:Int × Int)=>⟨[(16,.d (.v (.int .u64 i7.1))),(18,.d (.v (.int .u64 i7.2)))],[]⟩) fun i7 =>
 .br ((decide (i7.2≥4294967296))||(decide ((IntKind.u64.wrap (i7.2 * (eJ .u64 (gb .u64 y (IntKind.u64.wrap (x3))) 4294967295))) > (IntKind.u64.wrap ((IntKind.u64.wrap ((4294967296:Int) * i7.1))+(eJ .u64 (gb .u64 lo (IntKind.u64.wrap (x3))) 4294967295))))))
 (.br (decide ((IntKind.u64.wrap (i7.1+(ep .u64 (gb .u64 y (IntKind.u64.wrap (x3))) 32)))≥4294967296))
 (.fin (.inl (.inr (IntKind.u64.wrap (i7.2 - 1)))))
 (.fin (.inr (IntKind.u64.wrap (i7.1+(ep .u64 (gb .u64 y (IntKind.u64.wrap (x3))) 32)),IntKind.u64.wrap (i7.2 - 1)))))
 (.fin (.inl (.inr i7.2))))
 (fun (b6:Int)=>⟨[(18,.d (.v (.int .u64 b6)))],[]⟩) fun b6 =>
 .r 28 (.p (0≤(IntKind.u64.wrap (x3)))) fun _ =>
 .fin (IntKind.u64.wrap ((IntKind.u64.wrap (b4.1 * 4294967296))+b6),ep .u64 (IntKind.u64.wrap ((IntKind.u64.wrap ((IntKind.u64.wrap ((IntKind.u64.wrap ((IntKind.u64.wrap ((IntKind.u64.wrap ((VK .u64 (gb .u64 hi (IntKind.u64.wrap (x3))) (ep .u64 lo (IntKind.u64.wrap ((64:Int) - (IntKind.u64.wrap (x3)))))) * 4294967296))+(ep .u64 (gb .u64 lo (IntKind.u64.wrap (x3))) 32))) - (IntKind.u64.wrap (b4.1 * (gb .u64 y (IntKind.u64.wrap (x3))))))) * 4294967296))+(eJ .u64 (gb .u64 lo (IntKind.u64.wrap (x3))) 4294967295))) - (IntKind.u64.wrap (b6 * (gb .u64 y (IntKind.u64.wrap (x3))))))) (IntKind.u64.wrap (x3))))
def wA hi lo y:=(mR hi lo y).val
theorem MW (hi:Int) (lo:Int) (y:Int) (hP:0≤hi∧hi < y∧y < 18446744073709551616∧0≤lo∧lo < 18446744073709551616):(mR hi lo y).dj (fun (x:Int × Int)=>x.1=(hi * 18446744073709551616+lo) / y∧x.2=(hi * 18446744073709551616+lo) % y):=by
  refine Sk.bz _ ?_
  unfold mR
  simp only [Sk.de,Sk.aI,reduceCtorEq,ON,kk,kp,m4,maxLen]
  refine ⟨fun h=>by simp only [LN] at h; omega,fun _ _=>⟨fun h=>by simp only [LN] at h; omega,fun _ _=>⟨fun h0 _=>?_,fun _ x _ hx=>?_⟩⟩⟩
  · simp only [LN] at h0
    subst h0
    have e:=Int.tdiv_eq_ediv_of_nonneg (a:=lo) (b:=y) hP.2.2.2.1
    have e2:=Int.tmod_eq_emod_of_nonneg (a:=lo) (b:=y) hP.2.2.2.1
    have q0:0≤lo / y:=Int.ediv_nonneg hP.2.2.2.1 (by omega)
    have q1:lo / y≤lo:=Int.ediv_le_self _ hP.2.2.2.1
    rw [e,e2,eu q0 (by omega)]
    simp
  · have hx:=hx ⟨by omega,by omega⟩
    obtain ⟨U,L,eU,eL,eY,hL,hU,hN⟩:=Ql hP hx
    simp only [eU,eL,eY,Yb]
    have hp:(0:Int) < 2 ^ x.toNat:=Int.pow_pos (by omega)
    have es:∀ a:Int,ep .u64 a (IntKind.u64.wrap x)=a / 2 ^ x.toNat:=fun a=>by
      rw [eu hx.1 (by omega)]
      exact G5 .u64 (b:=x) (by show 0≤x∧x≤64; omega)
    simp only [es]
    have hw:=fun q1 q0=>Zt (y:=y) (q1:=q1) (q0:=q0) (by omega) hp hx.2.2 hL hU hN
    generalize hYY:y * 2 ^ x.toNat=Y at *
    rw [KF (by omega) hx.2.2.2,KF hL.1 hL.2]
    have eY2:Y / 4294967296 * 4294967296+Y % 4294967296=Y:=by omega
    have X9:HY (Y / 4294967296) (Y % 4294967296) U (L / 4294967296):=⟨⟨by omega,by omega⟩,⟨by omega,by omega⟩,⟨by omega,by omega⟩,by omega,by omega⟩
    intro _ _ _ _ _ _
    refine ⟨⟨De X9,fun i hi=>⟨fun hc=>?_,fun hc=>Dg X9 hi hc⟩⟩,fun b hb=>?_⟩
    · have h:=Df X9 hi hc
      exact ⟨fun h2=>h.2.1 (of_decide_eq_true h2),fun h2=>⟨h.2.2 (Int.not_le.1 (of_decide_eq_false h2)),h.1⟩⟩
    · have r1:=zx X9 hb
      rw [eY2] at r1
      rw [r1.1]
      have VX:HY (Y / 4294967296) (Y % 4294967296) (U * 4294967296+L / 4294967296 - b.1 * Y) (L % 4294967296):=⟨⟨by omega,by omega⟩,⟨by omega,by omega⟩,⟨by omega,by omega⟩,by omega,by omega⟩
      intro _
      refine ⟨⟨De VX,fun i hi=>⟨fun hc=>?_,fun hc=>Dg VX hi hc⟩⟩,fun q hq=>?_⟩
      · have h:=Df VX hi hc
        exact ⟨fun h2=>h.2.1 (of_decide_eq_true h2),fun h2=>⟨h.2.2 (Int.not_le.1 (of_decide_eq_false h2)),h.1⟩⟩
      · intro _
        have r0:=zx VX hq
        rw [eY2] at r0
        rw [r0.1]
        exact hw _ _ hb hq

theorem uD (hi:Int) (lo:Int) (y:Int):(fun (x:Int × Int)=>(0≤hi∧hi < y∧y < 18446744073709551616∧0≤lo∧lo < 18446744073709551616)→(x.1=(hi * 18446744073709551616+lo) / y∧x.2=(hi * 18446744073709551616+lo) % y)) (wA hi lo y):=fun hP=>Sk.dk _ (MW hi lo y hP)
theorem Pc (hi:Int) (lo:Int) (y:Int) (hy:0≤hi∧hi < y∧y < 18446744073709551616∧0≤lo∧lo < 18446744073709551616):(mR hi lo y).bC (fun _=>True):=by
  refine Sk.aR _ ?_
  unfold mR
  simp only [Sk.jt,Sk.aI,reduceCtorEq,ON,kk,kp,m4,maxLen]
  refine ⟨fun h=>by simp only [LN] at h; omega,fun _ _=>⟨fun h=>by simp only [LN] at h; omega,fun _ _=>⟨fun _=>by omega,fun _=>⟨by omega,fun x _ hx=>?_⟩⟩⟩⟩
  have hx:=hx ⟨by omega,by omega⟩
  obtain ⟨U,L,eU,eL,eY,hL,hU,hN⟩:=Ql hy hx
  simp only [eU,eL,eY,Yb]
  have hp:(0:Int) < 2 ^ x.toNat:=Int.pow_pos (by omega)
  generalize hYY:y * 2 ^ x.toNat=Y at *
  rw [KF (by omega) hx.2.2.2,KF hL.1 hL.2]
  have eY2:Y / 4294967296 * 4294967296+Y % 4294967296=Y:=by omega
  have hn:Y / 4294967296≠0:=by omega
  have X9:HY (Y / 4294967296) (Y % 4294967296) U (L / 4294967296):=⟨⟨by omega,by omega⟩,⟨by omega,by omega⟩,⟨by omega,by omega⟩,by omega,by omega⟩
  refine ⟨(kX _).1,fun _=>⟨by decide,fun _=>⟨⟨(kX _).1,(kX _).1⟩,fun _=>⟨(kX _).1,fun _=>⟨by decide,fun _=>⟨hn,fun _=>⟨⟨De X9,fun i hi=>⟨fun hc=>?_,fun hc=>Dg X9 hi hc⟩⟩,fun b hb=>⟨hn,fun _=>?_⟩⟩⟩⟩⟩⟩⟩⟩
  · have h:=Df X9 hi hc
    exact ⟨fun h2=>h.2.1 (of_decide_eq_true h2),fun h2=>⟨h.2.2 (Int.not_le.1 (of_decide_eq_false h2)),h.1⟩⟩
  · have r1:=zx X9 hb
    rw [eY2] at r1
    rw [r1.1]
    have VX:HY (Y / 4294967296) (Y % 4294967296) (U * 4294967296+L / 4294967296 - b.1 * Y) (L % 4294967296):=⟨⟨by omega,by omega⟩,⟨by omega,by omega⟩,⟨by omega,by omega⟩,by omega,by omega⟩
    refine ⟨⟨De VX,fun i hi=>⟨fun hc=>?_,fun hc=>Dg VX hi hc⟩⟩,fun q hq=>(kX _).1⟩
    have h:=Df VX hi hc
    exact ⟨fun h2=>h.2.1 (of_decide_eq_true h2),fun h2=>⟨h.2.2 (Int.not_le.1 (of_decide_eq_false h2)),h.1⟩⟩

def oZ hi lo y:=kk tok mixed Tryz.func224 [.d (.v (.int .u64 hi)),.d (.v (.int .u64 lo)),.d (.v (.int .u64 y))] (fun x=>.fD [.d (.v (.int .u64 x.1)),.d (.v (.int .u64 x.2))]) true (mR hi lo y) (wA hi lo y) (Pc hi lo y) (fun (x:Int × Int)=>(0≤hi∧hi < y∧y < 18446744073709551616∧0≤lo∧lo < 18446744073709551616)→(x.1=(hi * 18446744073709551616+lo) / y∧x.2=(hi * 18446744073709551616+lo) % y)) (uD hi lo y)
def mS (a:Int) (b:Int) (c_:Int):Sk (Int × Int × Bool) :=
 .r 1 ((kq (IntKind.u64.wrap (a)) (IntKind.u64.wrap (b))).c) fun x1 =>
 .br (decide (x1.1≥(IntKind.u64.wrap (c_))))
 (.fin (0,0,false))
 (.r 4 ((oZ x1.1 x1.2 (IntKind.u64.wrap (c_))).c) fun x2 =>
 .br (decide (x2.1 > 1099511627776))
 (.fin (0,0,false))
 (.fin (ar (x2.1),ar (x2.2),true)))
def nW a b c_:=(mS a b c_).val
theorem MX (a:Int) (b:Int) (c_:Int) (hP:(0≤a∧a≤9223372036854775807)∧(0≤b∧b≤9223372036854775807)∧0 < c_∧c_≤9223372036854775807):(mS a b c_).dj (fun (x:Int × Int × Bool)=>x.2.2=true→(0≤x.1∧x.1≤1099511627776)∧x.1=a * b / c_∧x.2.1=a * b % c_):=by
  refine Sk.bz _ ?_
  unfold mS
  simp only [Sk.de,Sk.aI,reduceCtorEq,ON,kk,kp,oZ,kq,maxLen]
  obtain ⟨ha,hb,YP,I9⟩:=hP
  rw [eu (n:=a) ha.1 (by omega),eu (n:=b) hb.1 (by omega),eu (n:=c_) (by omega) (by omega)]
  intro x _ hx
  obtain ⟨x1,x2,x3⟩:=hx ⟨⟨ha.1,by omega⟩,hb.1,by omega⟩
  intro hc y _ hy hc3
  simp only [LN] at hc hc3
  have hy:=hy ⟨x1.1,by omega,by omega,x2.1,x2.2⟩
  rw [x3] at hy
  have q0:0≤a * b / c_:=Int.ediv_nonneg (Int.mul_nonneg ha.1 hb.1) (by omega)
  have m0:=Int.emod_nonneg (a * b) (b:=c_) (by omega)
  have m1:=Int.emod_lt_of_pos (a * b) (b:=c_) YP
  rw [aA (n:=y.1) (by omega) (by omega),aA (n:=y.2) (by omega) (by omega)]
  omega

theorem Kb (a:Int) (b:Int) (c_:Int):(fun (x:Int × Int × Bool)=>((0≤a∧a≤9223372036854775807)∧(0≤b∧b≤9223372036854775807)∧0 < c_∧c_≤9223372036854775807)→(x.2.2=true→(0≤x.1∧x.1≤1099511627776)∧x.1=a * b / c_∧x.2.1=a * b % c_)) (nW a b c_):=fun hP=>Sk.dk _ (MX a b c_ hP)
theorem Pd (a:Int) (b:Int) (c_:Int):(mS a b c_).bC (fun _=>True):=by
  refine Sk.aR _ ?_
  unfold mS
  simp only [Sk.jt,Sk.aI,reduceCtorEq,ON,kk,kp,oZ,kq,maxLen]
  intro x _ h hc
  simp only [LN] at hc
  obtain ⟨x1,x2,-⟩:=h ⟨kX _,kX _⟩
  exact ⟨x1.1,by omega,(kX _).2,x2.1,x2.2⟩

def Au a b c_:=kk tok mixed Tryz.func220 [iv a,iv b,iv c_] (fun x=>.fD [iv x.1,iv x.2.1,bv x.2.2]) true (mS a b c_) (nW a b c_) (u0 (Pd a b c_)) (fun (x:Int × Int × Bool)=>((0≤a∧a≤9223372036854775807)∧(0≤b∧b≤9223372036854775807)∧0 < c_∧c_≤9223372036854775807)→(x.2.2=true→(0≤x.1∧x.1≤1099511627776)∧x.1=a * b / c_∧x.2.1=a * b % c_)) (Kb a b c_)
def kG (sum:Int) (iL:Int) (from_:Int) (cM:Int) (basis:Int):Sk (Int × Int) :=
 .r 1 (.dep ((lR sum 1099511627776).c) fun x1=>.dep (.wh (!x1) false ((lR iL 1000).c)) fun x2=>.dep (.wh ((!x1)||(!x2)) false ((lR from_ 100000).c)) fun x3=>.wh (((!x1)||(!x2))||(!x3)) false ((lR cM 100000).c)) fun p6 =>
 .br ((((((!p6.1)||(!p6.2.1))||(!p6.2.2.1))||(!p6.2.2.2))||(decide (cM < from_)))||((basis != 360)&&(basis != 365)))
 (.fin (0,1))
 (.r 3 ((Au sum (ar (iL * (ar (cM - from_)))) (ar ((1000:Int) * basis))).c) fun x5 =>
 .br (!x5.2.2)
 (.fin (0,3))
 (.fin (x5.1,0)))
def sb sum iL from_ cM basis:=(kG sum iL from_ cM basis).val
theorem EJ (sum:Int) (iL:Int) (from_:Int) (cM:Int) (basis:Int):(kG sum iL from_ cM basis).dj (fun (x:Int × Int)=>0≤x.1∧x.1≤1099511627776):=by
  refine Sk.bz _ ?_
  unfold kG
  simp only [Sk.de,Sk.aI,reduceCtorEq,ON,kk,kp,Au,lR,uC,forall_eq,maxLen]
  refine ⟨fun _=>⟨by decide,by decide⟩,fun hc h=>⟨fun _=>⟨by decide,by decide⟩,fun I9=>?_⟩⟩
  simp only [LN] at hc I9
  have hp0:0≤iL * (cM - from_):=Int.mul_nonneg (by omega) (by omega)
  have hp1:iL * (cM - from_)≤1000 * (cM - from_):=Int.mul_le_mul_of_nonneg_right (by omega) (by omega)
  rw [aA (n:=cM - from_) (by omega) (by omega),aA (n:=iL * (cM - from_)) (by omega) (by omega),aA (n:=1000 * basis) (by omega) (by omega)] at h I9 ⊢
  exact (h ⟨by omega,by omega,by omega⟩ I9).1

theorem Gm (sum:Int) (iL:Int) (from_:Int) (cM:Int) (basis:Int):(kG sum iL from_ cM basis).bC (fun _=>True):=by
  unfold kG
  try simp only [Au,lR,uC]
  exact Br

def sW sum iL from_ cM basis:=kp tok mixed Tryz.func190 [iv sum,iv iL,iv from_,iv cM,iv basis] (fun x=>.fD [iv x.1,iv x.2]) true (sb sum iL from_ cM basis) (u0 (Gm sum iL from_ cM basis)) (EJ sum iL from_ cM basis)
def jE (sum:Int) (mC:Int) (from_:Int) (cM:Int):Sk (Int) :=
 .r 1 ((sW sum mC from_ cM 360).c) fun x1 =>
 .br (x1.2 == 3)
 (.fin 1099511627776)
 (.fin x1.1)
def fx sum mC from_ cM:=(jE sum mC from_ cM).val
theorem uQ (sum:Int) (mC:Int) (from_:Int) (cM:Int):(jE sum mC from_ cM).dj (fun (x:Int)=>0≤x∧x≤1099511627776):=by
  unfold jE
  try simp only [sW]
  exact Fw

theorem nX (sum:Int) (mC:Int) (from_:Int) (cM:Int):(fun (x:Int)=>0≤x∧x≤1099511627776) (fx sum mC from_ cM):=have h:=Sk.dk _ (uQ sum mC from_ cM); h
theorem EK (sum:Int) (mC:Int) (from_:Int) (cM:Int):(jE sum mC from_ cM).bC (fun _=>True):=by
  unfold jE
  try simp only [sW]
  exact qS

def nw sum mC from_ cM:=kp tok mixed Tryz.func155 [iv sum,iv mC,iv from_,iv cM] (fun x=>iv x) true (fx sum mC from_ cM) (u0 (EK sum mC from_ cM)) (uQ sum mC from_ cM)
structure mI where
  num:Int
  den:Int
  deriving Inhabited
def mI.cells (c:mI):List D:=[dI c.num,dI c.den]
def nY (bV:List qT) (from_:Int) (cM:Int) (day:Int):Sk (Int) :=
 .bind true (fun b1=>b1 = -1∨(0≤b1∧b1 < (bV.length:Int)))
 (.loop (default:Sum (Int) (Int)) (fun i2=>i2.2≤bV.length∧(i2.1 = -1∨(0≤i2.1∧i2.1 < (bV.length:Int)))) (fun i2=>bV.length - i2.2) (((-1),0):Int × Nat)
 (fun (i2:Int × Nat)=>⟨[(9,iv i2.1),(14,iv ((i2.2:Nat):Int))],[]⟩) fun i2 =>
 .lt 0 0 i2.2 bV.length
 (.r 4 (.p (bU ((i2.2:Nat):Int) bV.length)) fun _ =>
 .r 5 (.wh (((((bV.getD i2.2 default).from_) == from_)&&(((bV.getD i2.2 default).cM) == cM))&&(decide (((bV.getD i2.2 default).since)≤day))) true (.wh (decide (i2.1 < 0)) false (.p (bU i2.1 bV.length)))) fun _ =>
 .br ((((((bV.getD i2.2 default).from_) == from_)&&(((bV.getD i2.2 default).cM) == cM))&&(decide (((bV.getD i2.2 default).since)≤day)))&&((decide (i2.1 < 0))||(decide (((bV.getD i2.2 default).since) > ((bV.getD i2.1.toNat default).since)))))
 (.r 7 .z fun _ =>
 .wi 14 (ar (((i2.2:Nat):Int)+1)) ((i2.2+1:Nat):Int) <|
 .fin (.inr (((i2.2:Nat):Int),i2.2+1)))
 (.nx 7 14 i2.2 (i2.1,i2.2+1)))
 (.fin (.inl (.inr i2.1))))
 (fun (b1:Int)=>⟨[(9,iv b1)],[]⟩) fun b1 =>
 .fin b1
def UJ bV from_ cM day:=(nY bV from_ cM day).val
theorem Kc (bV:List qT) (from_:Int) (cM:Int) (day:Int):(nY bV from_ cM day).dj (fun (x:Int)=>x = -1∨(0≤x∧x < (bV.length:Int))):=by
  unfold nY
  exact Fw

theorem MY (bV:List qT) (from_:Int) (cM:Int) (day:Int):(nY bV from_ cM day).bC (fun _=>True):=by
  unfold nY
  exact mz

def tw bV from_ cM day:=kp tok mixed Tryz.func221 [lv qT.cells bV,iv from_,iv cM,iv day] (fun x=>iv x) true (UJ bV from_ cM day) (u0 (MY bV from_ cM day)) (Kc bV from_ cM day)
def sc (n:Int):Sk (Int) :=
 .br (decide (n < 0))
 (.fin (IntKind.u64.wrap (0 - (IntKind.u64.wrap (n)))))
 (.fin (IntKind.u64.wrap (n)))
def Zu n:=(sc n).val
theorem Pe (n:Int):(sc n).dj (fun (x:Int)=>0≤x∧x < 18446744073709551616∧(0≤n→n≤9223372036854775807→x=n)):=by
  refine Sk.bz _ ?_
  unfold sc
  simp only [Sk.de,Sk.aI,reduceCtorEq,ON,kk,kp,maxLen]
  refine ⟨fun hc=>⟨(kX _).1,(kX _).2,fun h=>?_⟩,fun _=>⟨(kX _).1,(kX _).2,fun h1 h2=>eu h1 (by omega)⟩⟩
  simp only [LN] at hc
  omega

theorem R1 (n:Int):(sc n).bC (fun _=>True):=by
  unfold sc
  exact qS

def xz n:=kp tok mixed Tryz.func239 [iv n] (fun x=>.d (.v (.int .u64 x))) true (Zu n) (u0 (R1 n)) (Pe n)
theorem abx {p q:Int} (hp:0≤p) (hq:0≤q):q.gcd (p.tmod q)=p.gcd q:=by
  obtain ⟨p,rfl⟩:=Int.eq_ofNat_of_zero_le hp
  obtain ⟨q,rfl⟩:=Int.eq_ofNat_of_zero_le hq
  rw [Int.tmod_eq_emod_of_nonneg (by omega),← Int.natCast_emod,Int.gcd_natCast_natCast,Int.gcd_natCast_natCast,Nat.gcd_comm q,Nat.gcd_comm p q,Nat.gcd_rec q p]
theorem Qm {i:Int × Int} {a b:Int} (hi:0≤i.1∧0≤i.2∧Int.gcd i.1 i.2=Int.gcd a b) (h:i.2≠0):(0≤i.2∧0≤i.1.tmod i.2∧Int.gcd i.2 (i.1.tmod i.2)=Int.gcd a b)∧(i.1.tmod i.2).toNat < i.2.toNat:=by
  have h1:=Int.tmod_nonneg i.2 hi.1
  have h2:=Int.tmod_lt_of_pos i.1 (b:=i.2) (by omega)
  exact ⟨⟨hi.2.1,h1,(abx hi.1 hi.2.1).trans hi.2.2⟩,by omega⟩
theorem Yc {i:Int × Int} {a b:Int} (hi:0≤i.1∧0≤i.2∧Int.gcd i.1 i.2=Int.gcd a b) (h:i.2=0):i.1=(Int.gcd a b:Int):=by
  rw [← hi.2.2,h]
  have:=hi.1
  simp [Int.gcd_zero_right]
  omega
theorem UK {n:Int} {g:Int} (hn:1≤n∧n≤1073741824) (hg:0 < g) (hd:g∣n):1≤IntKind.u64.wrap (n.tdiv g)∧IntKind.u64.wrap (n.tdiv g)≤1073741824:=by
  have e:n.tdiv g=n / g:=Int.tdiv_eq_ediv_of_nonneg (by omega)
  have h1:g≤n:=Int.le_of_dvd (by omega) hd
  have h2:1≤n / g:=(Int.le_ediv_iff_mul_le hg).2 (by omega)
  have h3:n / g≤n:=Int.ediv_le_self _ (by omega)
  rw [e,eu (by omega) (by omega)]
  omega
def o8 (a:Int) (b:Int):Sk (Int) :=
 .bind true (fun b1=>b1=(Int.gcd a b:Int))
 (.loop (default:Sum (Int) (Int)) (fun i2=>0≤i2.1∧0≤i2.2∧Int.gcd i2.1 i2.2=Int.gcd a b) (fun i2=>i2.2.toNat) ((a,b):Int × Int)
 (fun (i2:Int × Int)=>⟨[(0,.d (.v (.int .u64 i2.1))),(1,.d (.v (.int .u64 i2.2)))],[]⟩) fun i2 =>
 .br (i2.2 != 0)
 (.r 2 (.p (i2.2≠0)) fun _ =>
 .fin (.inr (i2.2,i2.1.tmod i2.2)))
 (.fin (.inl (.inr i2.1))))
 (fun (b1:Int)=>⟨[(0,.d (.v (.int .u64 b1)))],[]⟩) fun b1 =>
 .fin b1
def Qn a b:=(o8 a b).val
theorem Pf (a:Int) (b:Int) (hP:0≤a∧0≤b):(o8 a b).dj (fun (x:Int)=>x=(Int.gcd a b:Int)):=by
  refine Sk.bz _ ?_
  unfold o8
  simp only [Sk.de,Sk.aI,reduceCtorEq,ON,kk,kp,maxLen]
  exact ⟨⟨hP,fun i hi=>⟨fun hc _=>Qm hi (by simpa using hc),fun hc=>Yc hi (by simpa using hc)⟩⟩,fun b hb=>hb⟩

theorem MZ (a:Int) (b:Int):(fun (x:Int)=>(0≤a∧0≤b)→(x=(Int.gcd a b:Int))) (Qn a b):=fun hP=>Sk.dk _ (Pf a b hP)
theorem R2 (a:Int) (b:Int) (ha:0≤a∧0≤b):(o8 a b).bC (fun _=>True):=by
  refine Sk.aR _ ?_
  unfold o8
  simp only [Sk.jt,Sk.aI,reduceCtorEq,ON,kk,kp,maxLen]
  exact ⟨ha,fun i hi=>⟨fun hc=>⟨by simpa using hc,fun _=>Qm hi (by simpa using hc)⟩,fun hc=>Yc hi (by simpa using hc)⟩⟩

def Ct a b:=kk tok mixed Tryz.func240 [.d (.v (.int .u64 a)),.d (.v (.int .u64 b))] (fun x=>.d (.v (.int .u64 x))) true (o8 a b) (Qn a b) (R2 a b) (fun (x:Int)=>(0≤a∧0≤b)→(x=(Int.gcd a b:Int))) (MZ a b)
structure Kd where
  hi:Int
  lo:Int
  deriving Inhabited
def Kd.cells (c:Kd):List D:=[.v (.int .u64 c.hi),.v (.int .u64 c.lo)]
def mT (negative:Bool) (num:Kd) (den:Kd):Sk (mI × Int) :=
 .br ((((decide (num.hi > 0))||(decide (den.hi > 0)))||(decide (num.lo > 1152921504606846976)))||(decide (den.lo > 1152921504606846976)))
 (.fin (({ num:=0,den:=0 }:mI),3))
 (.br negative
 (.fin (({ num:=ar (0 - (ar (num.lo))),den:=ar (den.lo) }:mI),0))
 (.fin (({ num:=ar (num.lo),den:=ar (den.lo) }:mI),0)))
def M0 negative num den:=(mT negative num den).val
theorem M1 (negative:Bool) (num:Kd) (den:Kd) (hP:num.hi=0∧den.hi=0∧negative=false∧(1≤num.lo∧num.lo≤1073741824)∧1≤den.lo∧den.lo≤1073741824):(mT negative num den).dj (fun (x:mI × Int)=>x.1.num=num.lo∧x.1.den=den.lo):=by
  unfold mT
  exact Fw

theorem Ke (negative:Bool) (num:Kd) (den:Kd):(fun (x:mI × Int)=>(num.hi=0∧den.hi=0∧negative=false∧(1≤num.lo∧num.lo≤1073741824)∧1≤den.lo∧den.lo≤1073741824)→(x.1.num=num.lo∧x.1.den=den.lo)) (M0 negative num den):=fun hP=>Sk.dk _ (M1 negative num den hP)
theorem Pg (negative:Bool) (num:Kd) (den:Kd):(mT negative num den).bC (fun _=>True):=by
  unfold mT
  exact qS

def Aw negative num den:=kk tok mixed Tryz.func241 [bv negative,av num.cells,av den.cells] (fun x=>.fD [av x.1.cells,iv x.2]) true (mT negative num den) (M0 negative num den) (u0 (Pg negative num den)) (fun (x:mI × Int)=>(num.hi=0∧den.hi=0∧negative=false∧(1≤num.lo∧num.lo≤1073741824)∧1≤den.lo∧den.lo≤1073741824)→(x.1.num=num.lo∧x.1.den=den.lo)) (Ke negative num den)
def pN (num:Int) (den:Int):Sk (mI × Int) :=
 .br (den == 0)
 (.fin (({ num:=0,den:=0 }:mI),1))
 (.r 3 (.dep ((xz num).c) fun _=>(xz den).c) fun p5 =>
 .r 4 ((Ct p5.1 p5.2).c) fun x3 =>
 .r 5 (.aj (.p (x3≠0)) (.aj (.p (x3≠0)) ((Aw (!((decide (num < 0)) == (decide (den < 0)))) ({ hi:=0,lo:=IntKind.u64.wrap (p5.1.tdiv x3) }:Kd) ({ hi:=0,lo:=IntKind.u64.wrap (p5.2.tdiv x3) }:Kd)).c))) fun x4 =>
 .fin (x4.1,x4.2))
def WR num den:=(pN num den).val
theorem M3 (num:Int) (den:Int):(pN num den).dj (fun (x:mI × Int)=>(den=0→x.2=1)∧((1≤num∧num≤1073741824)∧1≤den∧den≤1073741824→(1≤x.1.num∧x.1.num≤1073741824)∧1≤x.1.den∧x.1.den≤1073741824)):=by
  refine Sk.bz _ ?_
  unfold pN
  simp only [Sk.de,Sk.aI,reduceCtorEq,ON,kk,kp,xz,Ct,Aw,maxLen]
  refine ⟨fun hc h=>?_,fun hc x _ hx y _ hy z _ hz=>⟨fun h=>?_,fun h=>?_⟩⟩
  all_goals simp only [LN] at hc
  · omega
  · omega
  · have e1:=hx.1.2.2 (by omega) (by omega)
    have e2:=hx.2.2.2 (by omega) (by omega)
    have hg:=hy ⟨hx.1.1,hx.2.1⟩
    rw [e1,e2] at hg hz
    have NZ:0 < y:=by
      rw [hg]
      have:=Int.gcd_pos_of_ne_zero_left (a:=num) den (by omega)
      omega
    have q1:=UK h.1 NZ (by rw [hg]; exact Int.gcd_dvd_left ..)
    have q2:=UK h.2 NZ (by rw [hg]; exact Int.gcd_dvd_right ..)
    have acb:(!decide (num < 0) == decide (den < 0))=false:=by
      rw [decide_eq_false (by omega),decide_eq_false (by omega)]; rfl
    have:=hz ⟨acb,q1,q2⟩
    omega

theorem Ph (num:Int) (den:Int) (hd:(0≤num∧num≤1073741824)∧0≤den∧den≤1073741824):(pN num den).bC (fun _=>True):=by
  refine Sk.aR _ ?_
  unfold pN
  simp only [Sk.jt,Sk.aI,reduceCtorEq,ON,kk,kp,xz,Ct,Aw,maxLen]
  intro hc x _ hx
  refine ⟨⟨hx.1.1,hx.2.1⟩,fun y _ hy=>?_⟩
  simp only [LN] at hc
  have hg:=hy ⟨hx.1.1,hx.2.1⟩
  have e2:=hx.2.2.2 (by omega) (by omega)
  have:=Int.gcd_pos_of_ne_zero_right x.1 (b:=x.2) (by omega)
  omega

def Ax num den:=kp tok mixed Tryz.func222 [iv num,iv den] (fun x=>.fD [av x.1.cells,iv x.2]) true (WR num den) (Ph num den) (M3 num den)
def lS (r:ah) (from_:Int) (cM:Int) (day:Int):Sk (mI × Bool) :=
 .r 2 ((tw r.bV from_ cM day).c) fun x1 =>
 .bind false (fun b2=>r.dg→(b2.1=0∧b2.2=0)∨((1≤b2.1∧b2.1≤1073741824)∧1≤b2.2∧b2.2≤1073741824))
 (.br (decide (x1≥0))
 (.r 4 (.aj (.p (bU x1 r.bV.length)) (.p (bU x1 r.bV.length))) fun _ =>
 .fin (.inr ((r.bV.getD x1.toNat default).num,(r.bV.getD x1.toNat default).den)))
 (.r 5 ((tw r.bV cM from_ day).c) fun x3 =>
 .br (decide (x3≥0))
 (.r 7 (.aj (.p (bU x3 r.bV.length)) (.p (bU x3 r.bV.length))) fun _ =>
 .fin (.inr ((r.bV.getD x3.toNat default).den,(r.bV.getD x3.toNat default).num)))
 (.fin (.inr (0,0)))))
 (fun (b2:Int × Int)=>⟨[(10,iv b2.1),(11,iv b2.2)],[]⟩) fun b2 =>
 .r 8 ((Ax b2.1 b2.2).c) fun x4 =>
 .fin (x4.1,x4.2 == 0)
def l5 r from_ cM day:=(lS r from_ cM day).val
theorem Kf (r:ah) (from_:Int) (cM:Int) (day:Int) (hP:r.dg):(lS r from_ cM day).dj (fun (x:mI × Bool)=>x.2=true→(1≤x.1.num∧x.1.num≤1073741824)∧1≤x.1.den∧x.1.den≤1073741824):=by
  refine Sk.bz _ ?_
  unfold lS
  simp only [Sk.de,Sk.aI,reduceCtorEq,ON,kk,kp,tw,Ax,maxLen]
  intro x _ hx
  refine ⟨⟨fun hc _ hR=>?_,fun hc y _ hy=>⟨fun I9 _ hR=>?_,fun _ _=>.inl trivial⟩⟩,fun b _ hb z _ hz h0=>?_⟩
  · simp only [LN] at hc
    exact .inr (hR x.toNat (by omega))
  · simp only [LN] at I9
    exact .inr ⟨(hR y.toNat (by omega)).2,(hR y.toNat (by omega)).1⟩
  · rcases hb hP with h | h
    · have:=hz.1 h.2
      rw [this] at h0
      exact absurd h0 (by decide)
    · exact hz.2 h

theorem sX (r:ah) (from_:Int) (cM:Int) (day:Int):(fun (x:mI × Bool)=>(r.dg)→(x.2=true→(1≤x.1.num∧x.1.num≤1073741824)∧1≤x.1.den∧x.1.den≤1073741824)) (l5 r from_ cM day):=fun hP=>Sk.dk _ (Kf r from_ cM day hP)
theorem M4 (r:ah) (from_:Int) (cM:Int) (day:Int) (hra:r.dg):(lS r from_ cM day).bC (fun _=>True):=by
  refine Sk.aR _ ?_
  unfold lS
  simp only [Sk.jt,Sk.aI,reduceCtorEq,ON,kk,kp,tw,Ax,maxLen]
  intro x _ hx
  refine ⟨⟨fun hc=>⟨?_,fun _ hR=>?_⟩,fun hc y _ hy=>⟨fun I9=>⟨?_,fun _ hR=>?_⟩,fun _ _=>.inl trivial⟩⟩,fun b _ hb=>?_⟩
  · simp only [LN] at hc; omega
  · simp only [LN] at hc
    exact .inr (hR x.toNat (by omega))
  · simp only [LN] at I9; omega
  · simp only [LN] at I9
    exact .inr ⟨(hR y.toNat (by omega)).2,(hR y.toNat (by omega)).1⟩
  · rcases hb hra with h | h <;> omega

def tx r from_ cM day:=kk tok mixed Tryz.func191 [av r.cells,iv from_,iv cM,iv day] (fun x=>.fD [av x.1.cells,bv x.2]) true (lS r from_ cM day) (l5 r from_ cM day) (M4 r from_ cM day) (fun (x:mI × Bool)=>(r.dg)→(x.2=true→(1≤x.1.num∧x.1.num≤1073741824)∧1≤x.1.den∧x.1.den≤1073741824)) (sX r from_ cM day)
theorem HU {a b:Int} (ha:1≤a∧a≤1073741824) (hb:1≤b∧b≤1073741824):(1≤a * b∧a * b≤1152921504606846976)∧IntKind.u64.wrap (IntKind.u64.wrap a * IntKind.u64.wrap b)=a * b:=by
  have h1:1 * b≤a * b:=Int.mul_le_mul_of_nonneg_right ha.1 (by omega)
  have h2:a * b≤1073741824 * b:=Int.mul_le_mul_of_nonneg_right ha.2 (by omega)
  have h3:1≤a * b∧a * b≤1152921504606846976:=by omega
  rw [eu (n:=a) (by omega) (by omega),eu (n:=b) (by omega) (by omega),eu (by omega) (by omega)]
  exact ⟨h3,rfl⟩
theorem M5 {s D W x y:Int} (hs:0≤s∧s≤1099511627776) (hD:0≤D∧D≤W) (hW:1≤W∧W≤1152921504606846976) (hx:0≤x) (hy:0≤y) (e:x * 18446744073709551616+y=s * D):x < W∧0≤s * D / W∧s * D / W≤s:=by
  have h0:0≤s * D:=Int.mul_nonneg hs.1 hD.1
  have h1:s * D≤s * W:=Int.mul_le_mul_of_nonneg_left hD.2 hs.1
  have h2:s * W≤1099511627776 * W:=Int.mul_le_mul_of_nonneg_right hs.2 (by omega)
  exact ⟨by omega,Int.ediv_nonneg h0 (by omega),Int.ediv_le_of_le_mul (by omega) h1⟩
def lT (sum:Int) (a:mI) (b:mI):Sk (Int) :=
 .br (decide ((IntKind.u64.wrap ((IntKind.u64.wrap (a.num)) * (IntKind.u64.wrap (b.num))))≥(IntKind.u64.wrap ((IntKind.u64.wrap (a.den)) * (IntKind.u64.wrap (b.den))))))
 (.fin 0)
 (.r 4 ((kq (IntKind.u64.wrap (sum)) (IntKind.u64.wrap ((IntKind.u64.wrap ((IntKind.u64.wrap (a.den)) * (IntKind.u64.wrap (b.den)))) - (IntKind.u64.wrap ((IntKind.u64.wrap (a.num)) * (IntKind.u64.wrap (b.num))))))).c) fun x1 =>
 .r 5 ((oZ x1.1 x1.2 (IntKind.u64.wrap ((IntKind.u64.wrap (a.den)) * (IntKind.u64.wrap (b.den))))).c) fun x2 =>
 .fin (ar (x2.1)))
def nZ sum a b:=(lT sum a b).val
theorem Kg (sum:Int) (a:mI) (b:mI) (hP:(0≤sum∧sum≤1099511627776)∧((1≤a.num∧a.num≤1073741824)∧1≤a.den∧a.den≤1073741824)∧(1≤b.num∧b.num≤1073741824)∧1≤b.den∧b.den≤1073741824):(lT sum a b).dj (fun (x:Int)=>0≤x∧x≤1099511627776):=by
  refine Sk.bz _ ?_
  unfold lT
  simp only [Sk.de,Sk.aI,reduceCtorEq,ON,kk,kp,oZ,kq,maxLen]
  obtain ⟨hs,ha,hb⟩:=hP
  obtain ⟨hk,ek⟩:=HU (a:=a.num) (b:=b.num) ha.1 hb.1
  obtain ⟨hw,ew⟩:=HU (a:=a.den) (b:=b.den) ha.2 hb.2
  rw [ek,ew]
  refine ⟨fun _=>⟨by decide,by decide⟩,fun hc x _ hx y _ hy=>?_⟩
  simp only [LN] at hc
  rw [eu (n:=sum) hs.1 (by omega),eu (n:=a.den * b.den - a.num * b.num) (by omega) (by omega)] at hx
  obtain ⟨h1,h2,h3⟩:=hx ⟨⟨hs.1,by omega⟩,by omega,by omega⟩
  obtain ⟨l1,l2,l3⟩:=M5 hs (D:=a.den * b.den - a.num * b.num) (by omega) hw h1.1 h2.1 h3
  have hy:=(hy ⟨h1.1,l1,by omega,h2.1,h2.2⟩).1
  rw [h3] at hy
  rw [aA (by omega) (by omega)]
  omega

theorem HV (sum:Int) (a:mI) (b:mI):(fun (x:Int)=>((0≤sum∧sum≤1099511627776)∧((1≤a.num∧a.num≤1073741824)∧1≤a.den∧a.den≤1073741824)∧(1≤b.num∧b.num≤1073741824)∧1≤b.den∧b.den≤1073741824)→(0≤x∧x≤1099511627776)) (nZ sum a b):=fun hP=>Sk.dk _ (Kg sum a b hP)
theorem M6 (sum:Int) (a:mI) (b:mI) (hs:0≤sum∧sum≤1099511627776) (ha:(1≤a.num∧a.num≤1073741824)∧1≤a.den∧a.den≤1073741824) (hb:(1≤b.num∧b.num≤1073741824)∧1≤b.den∧b.den≤1073741824):(lT sum a b).bC (fun _=>True):=by
  refine Sk.aR _ ?_
  unfold lT
  simp only [Sk.jt,Sk.aI,reduceCtorEq,ON,kk,kp,oZ,kq,maxLen]
  obtain ⟨hk,ek⟩:=HU (a:=a.num) (b:=b.num) ha.1 hb.1
  obtain ⟨hw,ew⟩:=HU (a:=a.den) (b:=b.den) ha.2 hb.2
  rw [ek,ew]
  intro hc x _ hx
  simp only [LN] at hc
  rw [eu (n:=sum) hs.1 (by omega),eu (n:=a.den * b.den - a.num * b.num) (by omega) (by omega)] at hx
  obtain ⟨h1,h2,h3⟩:=hx ⟨⟨hs.1,by omega⟩,by omega,by omega⟩
  obtain ⟨l1,l2,l3⟩:=M5 hs (D:=a.den * b.den - a.num * b.num) (by omega) hw h1.1 h2.1 h3
  exact ⟨h1.1,l1,by omega,h2.1,h2.2⟩

def ym sum a b:=kk tok mixed Tryz.func192 [iv sum,av a.cells,av b.cells] (fun x=>iv x) true (lT sum a b) (nZ sum a b) (u3 (M6 sum a b)) (fun (x:Int)=>((0≤sum∧sum≤1099511627776)∧((1≤a.num∧a.num≤1073741824)∧1≤a.den∧a.den≤1073741824)∧(1≤b.num∧b.num≤1073741824)∧1≤b.den∧b.den≤1073741824)→(0≤x∧x≤1099511627776)) (HV sum a b)
def gW (r:ah) (b:rC) (dQ:Int) (sum:Int) (from_:Int) (cM:Int):Sk (Int) :=
 .r 1 (.aj (.p (bU dQ r.bu.length)) (.p (bU ((r.bu.getD dQ.toNat default).cH) r.aN.length))) fun _ =>
 .br (((r.aN.getD (((r.bu.getD dQ.toNat default).cH).toNat) default).au) == b.au)
 (.fin 0)
 (.r 4 ((tx r b.au ((r.aN.getD (((r.bu.getD dQ.toNat default).cH).toNat) default).au) from_).c) fun x1 =>
 .r 5 ((tx r ((r.aN.getD (((r.bu.getD dQ.toNat default).cH).toNat) default).au) b.au cM).c) fun x2 =>
 .br ((!x1.2)||(!x2.2))
 (.fin 0)
 (.r 8 ((ym sum x1.1 x2.1).c) fun x3 =>
 .fin x3))
def ka r b dQ sum from_ cM:=(gW r b dQ sum from_ cM).val
theorem DN (r:ah) (b:rC) (dQ:Int) (sum:Int) (from_:Int) (cM:Int) (hP:(0≤sum∧sum≤1099511627776)∧r.dg):(gW r b dQ sum from_ cM).dj (fun (x:Int)=>0≤x∧x≤1099511627776):=by
  unfold gW
  try simp only [tx,ym]
  exact Fw

theorem n4 (r:ah) (b:rC) (dQ:Int) (sum:Int) (from_:Int) (cM:Int):(fun (x:Int)=>((0≤sum∧sum≤1099511627776)∧r.dg)→(0≤x∧x≤1099511627776)) (ka r b dQ sum from_ cM):=fun hP=>Sk.dk _ (DN r b dQ sum from_ cM hP)
theorem EL (r:ah) (b:rC) (dQ:Int) (sum:Int) (from_:Int) (cM:Int) (hw:0≤dQ∧dQ < (r.bu.length:Int)) (hs:0≤sum∧sum≤1099511627776) (hfi:r.il) (hra:r.dg):(gW r b dQ sum from_ cM).bC (fun _=>True):=by
  refine Sk.aR _ ?_
  unfold gW
  simp only [Sk.jt,Sk.aI,reduceCtorEq,ON,kk,kp,tx,ym,maxLen]
  refine ⟨⟨hw,hfi dQ.toNat (by omega)⟩,fun _ _=>⟨hra,fun x _ hx=>⟨hra,fun y _ hy hc=>?_⟩⟩⟩
  simp only [LN] at hc
  exact ⟨hs,hx hra hc.1,hy hra hc.2⟩

def ny r b dQ sum from_ cM:=kk tok mixed Tryz.func156 [av r.cells,av b.cells,iv dQ,iv sum,iv from_,iv cM] (fun x=>iv x) true (gW r b dQ sum from_ cM) (ka r b dQ sum from_ cM) (u4 (EL r b dQ sum from_ cM)) (fun (x:Int)=>((0≤sum∧sum≤1099511627776)∧r.dg)→(0≤x∧x≤1099511627776)) (n4 r b dQ sum from_ cM)
def jF (r:ah) (forum:Int) (f:ak) (sign:Int) (day:Int):Sk (DM) :=
 .r 1 ((aV f day).c) fun x1 =>
 .r 2 ((tv r forum f sign day).c) fun x2 =>
 .br (((!x2.2)||(decide (sign < 0)))||(decide (sign≥((x1.af.length:Nat):Int))))
 (.fin ({ sum:=0,mH:=0,A5:=0,exchange:=0,WQ:=0,rest:=0,au:=0 }:DM))
 (.r 6 ((bW r forum f day).c) fun x3 =>
 .bind false (fun b4=>cb r f→r.dg→(0≤b4.sum∧b4.sum≤1099511627776)∧(0≤b4.mH∧b4.mH≤1099511627776)∧(0≤b4.A5∧b4.A5≤1099511627776)∧(0≤b4.exchange∧b4.exchange≤1099511627776))
 (.br ((x3 != (-1))&&(decide (x3≤(cq day 100000))))
 (.bind false (fun _=>True)
 (.br (f.aU.mC == 0)
 (.r 11 (.dep ((eX r forum 16 ({ file:=f,sign:=sign,jx:=sign,ch:=(-1),due:=x3,day:=day }:fF)).c) fun x6=>(oQ x6).c) fun p8 =>
 .fin (.inr (cq 1000 (bX 0 p8.2))))
 (.fin (.inr f.aU.mC)))
 (fun (b5:Int)=>⟨[(18,iv b5)],[]⟩) fun b5 =>
 .r 12 ((nw x2.1.sum b5 x3 (cq day 100000)).c) fun x9 =>
 .r 13 (.dep ((eX r forum 17 ({ file:=f,sign:=sign,jx:=sign,ch:=(-1),due:=x3,day:=day }:fF)).c) fun L7=>(eZ L7).c) fun p13 =>
 .br (p13.2 == 1)
 (.r 14 (.aj (.p (bU sign x1.af.length)) ((ny r f.aU ((x1.af.getD sign.toNat default).dQ) x2.1.sum x3 (cq day 100000)).c)) fun x12 =>
 .fin (.inr ({ sum:=x2.1.sum,mH:=x9,A5:=0,exchange:=x12,WQ:=0,rest:=0,au:=f.aU.au }:DM)))
 (.fin (.inr ({ sum:=x2.1.sum,mH:=x9,A5:=0,exchange:=0,WQ:=0,rest:=0,au:=f.aU.au }:DM))))
 (.fin (.inr ({ sum:=x2.1.sum,mH:=0,A5:=0,exchange:=0,WQ:=0,rest:=0,au:=f.aU.au }:DM))))
 (fun (b4:DM)=>⟨[],[(14,.box (b4.cells.map .d))]⟩) fun b4 =>
 .bind true (fun SM=>cb r f→0≤SM∧SM≤1099511627776)
 (.loop (default:Sum (DM) (Int)) (fun i15=>i15.1≤x1.aw.length∧(cb r f→0≤i15.2∧i15.2≤1099511627776)) (fun i15=>x1.aw.length - i15.1) ((0,b4.A5):Nat × Int)
 (fun (i15:Nat × Int)=>⟨[(116,iv ((i15.1:Nat):Int))],[(14,.box [iv b4.sum,iv b4.mH,iv i15.2,iv b4.exchange,iv b4.WQ,iv b4.rest,iv b4.au])]⟩) fun i15 =>
 .lt 114 0 i15.1 x1.aw.length
 (.r 17 (.p (bU ((i15.1:Nat):Int) x1.aw.length)) fun _ =>
 .br ((((x1.aw.getD i15.1 default).kind) == 4)||(((x1.aw.getD i15.1 default).kind) == 5))
 (.r 20 .z fun _ =>
 .wi 116 (ar (((i15.1:Nat):Int)+1)) ((i15.1+1:Nat):Int) <|
 .fin (.inr (i15.1+1,cq 1099511627776 (ar (i15.2+((x1.aw.getD i15.1 default).sum))))))
 (.nx 20 116 i15.1 (i15.1+1,i15.2)))
 (.fin (.inl (.inr i15.2))))
 (fun (SM:Int)=>⟨[],[(14,.box [iv b4.sum,iv b4.mH,iv SM,iv b4.exchange,iv b4.WQ,iv b4.rest,iv b4.au])]⟩) fun SM =>
 .fin ({ b4 with A5:=SM,rest:=cq 1099511627776 (ar ((ar ((ar (b4.sum+b4.mH))+SM))+b4.exchange)) }))
def im r forum f sign day:=(jF r forum f sign day).val
theorem Kh (r:ah) (forum:Int) (f:ak) (sign:Int) (day:Int) (hP:cb r f∧r.dg):(jF r forum f sign day).dj (fun (x:DM)=>0≤x.rest∧x.rest≤1099511627776):=by
  refine Sk.bz _ ?_
  unfold jF
  simp only [Sk.de,Sk.aI,reduceCtorEq,ON,kk,kp,ny,nw,eX,bW,oQ,eZ,tv,aV,maxLen]
  obtain ⟨hF,hR⟩:=hP
  have aeH:=hF.Ro
  have hSm:=hF.small
  have hw:∀ h1:ak,h1=ai f day→0≤sign→sign < (h1.af.length:Int)→0≤(h1.af.getD sign.toNat default).dQ∧(h1.af.getD sign.toNat default).dQ < (r.bu.length:Int):=fun h1 e a b=>by subst e; exact hF.aa9 day a b
  have ha:∀ h1:ak,h1=ai f day→∀ q:Nat,q < h1.aw.length→0≤(h1.aw.getD q default).sum∧(h1.aw.getD q default).sum≤1099511627776:=fun h1 e q hq=>by subst e; exact (hF.RG day).2.2.2 q hq
  all_goals (repeat' first | assumption | (apply And.intro) | (intro h))
  all_goals first | trivial | assumption | omega | (try simp only [hF,hR,aeH,hSm,and_self,and_true,true_implies,forall_const,LN] at *) <;> first | omega | assumption | exact (hw _ ‹_=ai f day› (by omega) (by omega)).1 | exact (hw _ ‹_=ai f day› (by omega) (by omega)).2 | (simp (disch:=omega) only [aA] at *; omega) | (simp (disch:=omega) only [aA,cq] at *; split <;> omega) | (have hq:=ha _ ‹_=ai f day› _ (Int.ofNat_lt.1 (by assumption)); simp (disch:=omega) only [aA,cq] at *; first | omega | (split <;> omega))

theorem zy (r:ah) (forum:Int) (f:ak) (sign:Int) (day:Int):(fun (x:DM)=>(cb r f∧r.dg)→(0≤x.rest∧x.rest≤1099511627776)) (im r forum f sign day):=fun hP=>Sk.dk _ (Kh r forum f sign day hP)
theorem M7 (r:ah) (forum:Int) (f:ak) (sign:Int) (day:Int) (hF:cb r f) (bj:f.Small) (bR:r.cj) (aX:r.Small) (gX:r.il) (gv:r.dg):(jF r forum f sign day).bC (fun _=>True):=by
  refine Sk.aR _ ?_
  unfold jF
  simp only [Sk.jt,Sk.aI,reduceCtorEq,ON,kk,kp,ny,nw,eX,bW,oQ,eZ,tv,aV,maxLen]
  have aeH:=hF.Ro
  have hSm:=hF.small
  have hw:∀ h1:ak,h1=ai f day→0≤sign→sign < (h1.af.length:Int)→0≤(h1.af.getD sign.toNat default).dQ∧(h1.af.getD sign.toNat default).dQ < (r.bu.length:Int):=fun h1 e a b=>by subst e; exact hF.aa9 day a b
  have ha:∀ h1:ak,h1=ai f day→∀ q:Nat,q < h1.aw.length→0≤(h1.aw.getD q default).sum∧(h1.aw.getD q default).sum≤1099511627776:=fun h1 e q hq=>by subst e; exact (hF.RG day).2.2.2 q hq
  all_goals (repeat' first | assumption | (apply And.intro) | (intro h))
  all_goals first | trivial | assumption | omega | (try simp only [hF,gv,aeH,hSm,and_self,and_true,true_implies,forall_const,LN] at *) <;> first | omega | assumption | exact (hw _ ‹_=ai f day› (by omega) (by omega)).1 | exact (hw _ ‹_=ai f day› (by omega) (by omega)).2 | (simp (disch:=omega) only [aA] at *; omega) | (simp (disch:=omega) only [aA,cq] at *; split <;> omega) | (have hq:=ha _ ‹_=ai f day› _ (Int.ofNat_lt.1 (by assumption)); simp (disch:=omega) only [aA,cq] at *; first | omega | (split <;> omega))

def yn r forum f sign day:=kk tok mixed Tryz.func121 [av r.cells,iv forum,av f.cells,iv sign,iv day] (fun x=>av x.cells) true (jF r forum f sign day) (im r forum f sign day) (u6 (M7 r forum f sign day)) (fun (x:DM)=>(cb r f∧r.dg)→(0≤x.rest∧x.rest≤1099511627776)) (zy r forum f sign day)
def mU (r:ah) (forum:Int) (f:ak) (day:Int):Sk ((List Claim)) :=
 .r 1 ((HH r forum f day).c) fun x1 =>
 .br (!x1.2)
 (.fin [])
 (.r 4 ((wm r forum f day).c) fun x2 =>
 .bind true (fun b3=>b3.length≤1000000)
 (.loop (default:Sum ((List Claim)) ((List Claim))) (fun i4=>i4.1≤x1.1.view.lead.length∧i4.2.length≤i4.1 * 10000) (fun i4=>x1.1.view.lead.length - i4.1) ((0,[]):Nat × (List Claim))
 (fun (i4:Nat × (List Claim))=>⟨[(42,iv ((i4.1:Nat):Int))],[(100366,bw 83 9 Claim.cells i4.2),(12,.box [ow 100366 i4.2])]⟩) fun i4 =>
 .lt 40 0 i4.1 x1.1.view.lead.length
 (.bind true (fun b5=>b5.length≤i4.2.length+10000)
 (.r 8 (.p (bU ((i4.1:Nat):Int) x1.1.view.lead.length)) fun _ =>
 .r 9 ((sR x1.1.view (x1.1.view.lead.getD i4.1 default)).c) fun x6 =>
 .r 10 ((wv x1.1 x6).c) fun _ =>
 .bind true (fun b8=>b8.length≤i4.2.length+10000)
 (.rf (ml x1.1 x6) (fun ki9 i9=>i9.length≤i4.2.length+ki9 * 100) (fun (_:Unit)=>False) 2 (i4.2:(List Claim))
 (fun (i9:(List Claim))=>[(100534,bw 83 9 Claim.cells i9),(12,.box [ow 100534 i9])]) (fun (_:Unit)=>[])
 (fun i9 WS =>
 .bind true (fun b12=>b12.length≤i9.length+100)
 (.r 12 ((rY x1.1.view (x1.1.view.lead.getD i4.1 default) WS.sign x6).c) fun J7 =>
 .bind true (fun SM=>SM.2.length≤i9.length+J7.length)
 (.loop (default:Sum (Sum (Sum (Unit) ((List Claim))) ((List Claim))) (Int × (List Claim))) (fun i15=>i15.1≤J7.length∧i15.2.length≤i9.length+i15.1) (fun i15=>J7.length - i15.1) ((0,i9):Nat × (List Claim))
 (fun (i15:Nat × (List Claim))=>⟨[(62,iv ((i15.1:Nat):Int))],[(100548,bw 83 9 Claim.cells i15.2),(12,.box [ow 100548 i15.2])]⟩) fun i15 =>
 .lt 60 0 i15.1 J7.length
 (.r 14 (.p (bU ((i15.1:Nat):Int) J7.length)) fun _ =>
 .r 15 (.p (bU (J7.getD i15.1 default) x1.1.view.now.af.length)) fun _ =>
 .r 16 ((sa x1.1 WS (J7.getD i15.1 default) x6 x2).c) fun x16 =>
 .br ((x16.1 == 0)||(((x1.1.view.now.af.getD ((J7.getD i15.1 default).toNat) default).dQ) == WS.gC))
 (.nx 20 62 i15.1 (i15.1+1,i15.2))
 (.r 18 ((yn r forum f (J7.getD i15.1 default) day).c) fun x17 =>
 .r 19 (.aj (.o [.eG (fm Claim.E [({ bL:=(x1.1.view.now.af.getD ((J7.getD i15.1 default).toNat) default).dQ,aH:=WS.gC,part:=x1.1.view.lead.getD i4.1 default,sign:=J7.getD i15.1 default,c9:=WS.sign,dF:=x16.2,sum:=x17.rest,au:=f.aU.au,state:=x16.1 }:Claim)])]) (.aj (.o [.eG (mX Claim.E i15.2 [({ bL:=(x1.1.view.now.af.getD ((J7.getD i15.1 default).toNat) default).dQ,aH:=WS.gC,part:=x1.1.view.lead.getD i4.1 default,sign:=J7.getD i15.1 default,c9:=WS.sign,dF:=x16.2,sum:=x17.rest,au:=f.aU.au,state:=x16.1 }:Claim)])]) (.aj (.t (Claim.E.ot [({ bL:=(x1.1.view.now.af.getD ((J7.getD i15.1 default).toNat) default).dQ,aH:=WS.gC,part:=x1.1.view.lead.getD i4.1 default,sign:=J7.getD i15.1 default,c9:=WS.sign,dF:=x16.2,sum:=x17.rest,au:=f.aU.au,state:=x16.1 }:Claim)])) (.p (yB i15.2.length [({ bL:=(x1.1.view.now.af.getD ((J7.getD i15.1 default).toNat) default).dQ,aH:=WS.gC,part:=x1.1.view.lead.getD i4.1 default,sign:=J7.getD i15.1 default,c9:=WS.sign,dF:=x16.2,sum:=x17.rest,au:=f.aU.au,state:=x16.1 }:Claim)].length 72))))) fun _ =>
 .r 20 .z fun _ =>
 .wi 62 (ar (((i15.1:Nat):Int)+1)) ((i15.1+1:Nat):Int) <|
 .fin (.inr (i15.1+1,i15.2++[({ bL:=(x1.1.view.now.af.getD ((J7.getD i15.1 default).toNat) default).dQ,aH:=WS.gC,part:=x1.1.view.lead.getD i4.1 default,sign:=J7.getD i15.1 default,c9:=WS.sign,dF:=x16.2,sum:=x17.rest,au:=f.aU.au,state:=x16.1 }:Claim)]))))
 (.fin (.inl (.inr (((i15.1:Nat):Int),i15.2)))))
 (fun (SM:Int × (List Claim))=>⟨[(62,iv SM.1)],[(100547,bw 83 9 Claim.cells SM.2),(12,.box [ow 100547 SM.2])]⟩) fun SM =>
 .fin (.inr SM.2))
 (fun (b12:(List Claim))=>⟨[],[(100545,bw 83 9 Claim.cells b12),(12,.box [ow 100545 b12])]⟩) fun b12 =>
 .fin (.inr b12)) fun r=>match r with
 | .inl _=>(.dead default)
 | .inr j18=>(.fin (.inr j18)))
 (fun (b8:(List Claim))=>⟨[],[(100526,bw 83 9 Claim.cells b8),(12,.box [ow 100526 b8])]⟩) fun b8 =>
 .fin (.inr b8))
 (fun (b5:(List Claim))=>⟨[],[(100503,bw 83 9 Claim.cells b5),(12,.box [ow 100503 b5])]⟩) fun b5 =>
 .nx 21 42 i4.1 (i4.1+1,b5))
 (.fin (.inl (.inr i4.2))))
 (fun (b3:(List Claim))=>⟨[],[(100274,bw 83 9 Claim.cells b3),(12,.box [ow 100274 b3])]⟩) fun b3 =>
 .fin b3)
def cm r forum f day:=(mU r forum f day).val
theorem D4 (r:ah) (forum:Int) (f:ak) (day:Int) (hF:cb r f) (bj:f.Small) (bR:r.cj) (aX:r.Small) (gX:r.il) (gv:r.dg):(mU r forum f day).bC (fun _=>True):=by
  refine Sk.aR _ ?_
  unfold mU
  simp only [Sk.jt,Sk.aI,reduceCtorEq,ON,kk,kp,Sk.de,yn,wm,wv,sa,HH,rY,sR,ml,Sum.forall,DH,forall_eq,maxLen]
  refine ⟨⟨bj,bR,aX⟩,?_⟩
  generalize aF r forum f day=x
  intro hx hc
  have he:=(hx (by simpa using hc)).1
  have ho:=D1 f day
  dsimp only at ho
  have rl:x.1.view.all=f:=by rw [he]; exact ho.1
  have M8:x.1.view.now=ai f day:=by rw [he]; exact ho.2.1
  have abo:x.1.view.day=day:=by rw [he]; exact ho.2.2.1
  have hxr:x.1.r=r:=by rw [he]
  have ah9:=hF.2.1.1
  have agp:x.1.view.lead.length≠0∧x.1.view.lead.length≤41:=by rw [he]; exact ⟨ho.2.2.2.1,by have:=ho.2.2.2.2; show (aD f day).lead.length≤41; omega⟩
  have hsg:=oM f day
  have agq:x.1.view.kP:=by unfold View.kP; rw [M8]; exact hF.RH day
  have xM:∀ part,(al x.1.view part).length≤40∧∀ y,y∈al x.1.view part→0≤y∧y < ((ai f day).af.length:Int):=fun part=>by
    have h:=pB x.1.view part
    rw [rl,abo] at h
    exact ⟨Nat.le_trans h.1 ah9,fun y hy=>⟨(h.2 y hy).1,hF.adB (h.2 y hy).1 (h.2 y hy).2.1 (h.2 y hy).2.2⟩⟩
  have hlg:∀ part i,i < (al x.1.view part).length→0≤(al x.1.view part).getD i default∧(al x.1.view part).getD i default < ((ai f day).af.length:Int):=fun part i hi=>(xM part).2 _ (vR hi _)
  have QH:∀ part,WO x.1 (al x.1.view part):=fun part=>by
    refine ⟨by have:=(xM part).1; omega,fun i hi=>by rw [M8]; exact hlg part i hi,fun i hi=>?_⟩
    have hs:x.1.view.now.Small:=by rw [M8]; exact B8 bj day
    have hb:x.1.r.cj:=by rw [hxr]; exact bR
    have hr:x.1.r.Small:=by rw [hxr]; exact aX
    exact ⟨hs,hb,hr⟩
  have hol:∀ part k y,(bK x.1 (al x.1.view part))[k]? = some y→k≤40:=fun part k y h=>by
    have h1:=(List.getElem?_eq_some_iff.1 h).1
    have h2:=EG x.1 (al x.1.view part)
    have h3:=(xM part).1
    omega
  have NR:∀ part b l,(bA x.1.view part b l).length≤40∧∀ i,i < (bA x.1.view part b l).length→0≤(bA x.1.view part b l).getD i default∧(bA x.1.view part b l).getD i default < ((ai f day).af.length:Int):=fun part b l=>by
    have h:=tV x.1.view part b l
    rw [M8] at h
    exact ⟨Nat.le_trans h.1 (by omega),fun i hi=>h.2 _ (vR hi _)⟩
  refine ⟨⟨bj,bR,aX⟩,fun hE=>⟨⟨Nat.zero_le _,by simp⟩,fun i hi hm=>⟨fun gH=>⟨⟨by simp only [LN] at gH; omega,fun _=>⟨by rw [rl]; exact bj,fun _ _=>⟨⟨QH _,by omega,fun k s y hs hy=>?_,?_⟩,?_⟩⟩⟩,?_⟩,?_⟩⟩⟩
  · have hk:=hol _ _ _ hy
    obtain ⟨hn,hg⟩:=NR (x.1.view.lead.getD i.1 default) y.sign (al x.1.view (x.1.view.lead.getD i.1 default))
    have AP:∀ (l:List Claim) (c:Claim),(l++[c]).length=l.length+1:=fun l c=>by simp
    have aiY:i.2.length≤410000:=by simp only [LN] at gH; omega
    refine ⟨⟨fun _=>⟨⟨⟨Nat.zero_le _,Nat.le_refl _⟩,fun j hj=>⟨fun hc _ _=>⟨fun _ _=>?_,fun _ _ _ _=>?_⟩,fun hc=>?_⟩⟩,fun b hb=>?_⟩,fun b _ hb=>?_⟩,⟨⟨agp.1,by rw [M8]; omega⟩,fun _=>?_⟩,?_⟩
    · simp only [LN] at hc; exact ⟨⟨by omega,by omega⟩,by omega⟩
    · simp only [LN] at hc; rw [AP]; exact ⟨⟨by omega,by omega⟩,by omega⟩
    · simp only [LN] at hc; omega
    · omega
    · omega
    · have e1:x.1.view.now=ai x.1.view.all x.1.view.day:=by rw [M8,rl,abo]
      have e2:cb x.1.r x.1.view.all:=by rw [hxr,rl]; exact hF
      have e3:x.1.view.all.Small:=by rw [rl]; exact bj
      have e4:x.1.r.cj:=by rw [hxr]; exact bR
      have e5:x.1.r.Small:=by rw [hxr]; exact aX
      have e6:(aW r forum f day).length=x.1.view.now.af.length:=by rw [M8]; exact hE
      have h1:∀ c:Claim,[c].length=1:=fun _=>rfl
      refine ⟨⟨⟨Nat.zero_le _,Nat.le_refl _⟩,fun j hj hm2=>⟨fun hc=>?_,fun hc=>?_⟩⟩,fun b hb=>by omega⟩
      · simp only [LN] at hc
        have hgj:=hg j.1 (by omega)
        rw [← M8] at hgj
        refine ⟨⟨by omega,by omega⟩,fun _=>⟨hgj,fun _=>⟨⟨e6,hgj,e1,e2,agq,e3,e4,e5⟩,fun _ _=>⟨(aA (by omega) (by omega)).trans (by omega),⟨by omega,by omega⟩,by omega⟩,fun _=>⟨⟨hF,bj,bR,aX,gX,gv⟩,fun _=>⟨?_,fun _ _=>⟨(aA (by omega) (by omega)).trans (by omega),⟨by omega,?_⟩,by omega⟩⟩⟩⟩⟩⟩
        · rw [h1]; omega
        · rw [AP]; omega
      · simp only [LN] at hc; omega
    · exact fun b _ hb=>by omega
  · intro b hb
    have h2:=EG x.1 (al x.1.view (x.1.view.lead.getD i.1 default))
    have h3:=(xM (x.1.view.lead.getD i.1 default)).1
    omega
  · exact fun b _ hb=>hb
  · intro b _ hb _
    simp only [LN] at gH
    exact ⟨(aA (by omega) (by omega)).trans (by omega),⟨by omega,by omega⟩,by omega⟩
  · intro hc
    simp only [LN] at hc
    omega

def R3 r forum f day:=kk tok mixed Tryz.func92 [av r.cells,iv forum,av f.cells,iv day] (fun x=>lv Claim.cells x) false (mU r forum f day) (cm r forum f day) (u6 (D4 r forum f day))
theorem M9 (r:ah) (forum:Int) (f:ak) (day:Int) (hF:cb r f) (bj:f.Small) (bR:r.cj) (aX:r.Small) (gX:r.il) (gv:r.dg):gQ Tryz.prog 92 [av r.cells,iv forum,av f.cells,iv day] [] (ow 777777 (cm r forum f day)) [(777777,bw 83 9 Claim.cells (cm r forum f day))] :=
  gQ.sk tok mixed (fun x=>ow 777777 x) (fun x=>[(777777,bw 83 9 Claim.cells x)]) Tryz.func92 rfl (by kernel_rfl) 3000 (mU r forum f day) (by kernel_rfl) (D4 r forum f day hF bj bR aX gX gv)
def yo (κ:Nat) (r:ah) (forum:Int) (f:ak) (day:Int):jZ ((List Claim)):=⟨Tryz.prog,92,[av r.cells,iv forum,av f.cells,iv day],fun x=>ow κ x,fun x=>[(κ,bw 83 9 Claim.cells x)],cm r forum f day,(cb r f)∧(f.Small)∧(r.cj)∧(r.Small)∧(r.il)∧(r.dg),fun h=>gQ.XX κ (M9 r forum f day h.1 h.2.1 h.2.2.1 h.2.2.2.1 h.2.2.2.2.1 h.2.2.2.2.2),fun _=>True,trivial⟩
def tz (s:Sign) (v:bD):Sk (Bool) :=
 .fin (s.dQ == v.cM)
def iE s v:=(tz s v).val
theorem tA (s:Sign) (v:bD):iE s v=(s.dQ == v.cM):=rfl
theorem Pj (s:Sign) (v:bD):(tz s v).bC (fun _=>True):=by
  unfold tz
  exact qS

def Ay s v:=kk tok mixed Tryz.func94 [av s.cells,.ref v.cells] (fun x=>bv x) true (tz s v) (iE s v) (u0 (Pj s v))
def gw (s:List Sign) (v:bD):Sk (Int) :=
 .bind true (fun b1=>∀ q,q < s.length→iE (s.getD q default) v=false)
 (.loop (default:Sum (Int) (Unit)) (fun i2=>∀ q,q < i2→iE (s.getD q default) v=false) (fun i2=>s.length - i2) (0:Nat)
 (fun (i2:Nat)=>⟨[(8,iv ((i2:Nat):Int))],[]⟩) fun i2 =>
 .lt 0 0 i2 s.length
 (.r 4 (.aj (.p (bU ((i2:Nat):Int) s.length)) ((Ay (s.getD i2 default) v).c)) fun x3 =>
 .br x3
 (.fin (.inl (.inl ((i2:Nat):Int))))
 (.nx 6 8 i2 (i2+1)))
 (.fin (.inl (.inr ()))))
 (fun (_:Unit)=>⟨[],[]⟩) fun _ =>
 .fin (-1)
def DP s v:=(gw s v).val
theorem zA (s:List Sign) (v:bD):(gw s v).dj (fun (x:Int)=>(x = -1∧∀ q,q < s.length→iE (s.getD q default) v=false)∨(0≤x∧x < s.length∧iE (s.getD x.toNat default) v=true∧∀ q,(q:Nat) < x.toNat→iE (s.getD q default) v=false)):=by
  unfold gw
  try simp only [Ay,tA]
  exact Wt

theorem Az (s:List Sign) (v:bD):(gw s v).bC (fun _=>True):=by
  unfold gw
  try simp only [Ay,tA]
  exact Br

def m5 s v:=kp tok mixed Tryz.func122 [lv Sign.cells s,.fn 94 [.ref v.cells]] (fun x=>iv x) true (DP s v) (u0 (Az s v)) (zA s v)
def eK (s:List Sign) (v:bD):Sk (Bool) :=
 .r 1 ((m5 s v).c) fun x1 =>
 .fin (decide (x1≥0))
def mu s v:=(eK s v).val
theorem wB (s:List Sign) (v:bD):(eK s v).dj (fun (x:Bool)=>(x=true↔∃ q,q < s.length∧iE (s.getD q default) v=true)):=by
  unfold eK
  try simp only [m5]
  exact Fw

theorem wY (s:List Sign) (v:bD):(eK s v).bC (fun _=>True):=by
  unfold eK
  try simp only [m5]
  exact qS

def hZ s v:=kp tok mixed Tryz.func93 [lv Sign.cells s,.fn 94 [.ref v.cells]] (fun x=>bv x) true (mu s v) (u0 (wY s v)) (wB s v)
structure Step where
  bL:Int
  aH:Int
  sign:Int
  sum:Int
  deriving Inhabited
def Step.cells (c:Step):List D:=[dI c.bL,dI c.aH,dI c.sign,dI c.sum]
def Step.E:P2 Step:=⟨Step.cells,4,fun _=>rfl,fun _=>rfl⟩
def kb (s:List Claim):Sk ((List Claim)) :=
 .VJ 0 s.length
 (.KC <|
 .fin [])
 (.Dw <|
 .r 3 (.aj (.o [.eG (fm Claim.E ([]:List Claim))]) (.aj (.o [.eG (mX Claim.E ([]:List Claim) s)]) (.aj (.t (Claim.E.src s)) (.p (yB (([]:List Claim).length) s.length 72))))) fun _ =>
 .fin (([]:List Claim)++s))
def sf s:=(kb s).val
theorem HW (s:List Claim):(kb s).dj (fun (x:(List Claim))=>x.length=s.length∧x=s):=by
  unfold kb
  simp [Sk.dj,fm,mX]
theorem xA (s:List Claim):(fun (x:(List Claim))=>x.length=s.length∧x=s) (sf s):=have h:=Sk.dk _ (HW s); h
theorem Ki (s:List Claim) (hs:s.length≤1000000000):(kb s).bC (fun _=>True):=by
  unfold kb
  exact mz

theorem HX (s:List Claim) (hs:s.length≤1000000000):gQ Tryz.prog 123 [lv Claim.cells s] [] (ow 777777 (sf s)) [(777777,bw 83 9 Claim.cells (sf s))] :=
  gQ.sk tok mixed (fun x=>ow 777777 x) (fun x=>[(777777,bw 83 9 Claim.cells x)]) Tryz.func123 rfl (by kernel_rfl) 3000 (kb s) (by kernel_rfl) (Ki s hs)
def qx (κ:Nat) (s:List Claim):jZ ((List Claim)):=⟨Tryz.prog,123,[lv Claim.cells s],fun x=>ow κ x,fun x=>[(κ,bw 83 9 Claim.cells x)],sf s,(s.length≤1000000000),fun h=>gQ.XX κ (HX s h),fun (x:(List Claim))=>x.length=s.length∧x=s,xA s⟩
def vh (a:bD) (bO:Bool) (c_:Claim):Sk (Bool) :=
 .fin ((c_.aH == a.cM)||((c_.aH == (-1))&&bO))
def eE a bO c_:=(vh a bO c_).val
theorem kH (a:bD) (bO:Bool) (c_:Claim):eE a bO c_=((c_.aH == a.cM)||((c_.aH == (-1))&&bO)):=rfl
theorem R4 (a:bD) (bO:Bool) (c_:Claim):(vh a bO c_).bC (fun _=>True):=by
  unfold vh
  exact qS

def xB a bO c_:=kk tok mixed Tryz.func124 [av a.cells,bv bO,av c_.cells] (fun x=>bv x) true (vh a bO c_) (eE a bO c_) (u0 (R4 a bO c_))
structure Key where
  bL:Int
  aH:Int
  part:Int
  sign:Int
  c9:Int
  deriving Inhabited
def Key.cells (c:Key):List D:=[dI c.bL,dI c.aH,dI c.part,dI c.sign,dI c.c9]
def Dh (c_:Claim):Sk (Key) :=
 .fin ({ bL:=c_.bL,aH:=c_.aH,part:=c_.part,sign:=c_.sign,c9:=c_.c9 }:Key)
def aby c_:=(Dh c_).val
theorem Di (c_:Claim):aby c_=({ bL:=c_.bL,aH:=c_.aH,part:=c_.part,sign:=c_.sign,c9:=c_.c9 }:Key):=rfl
theorem Zv (c_:Claim):(Dh c_).bC (fun _=>True):=by
  unfold Dh
  exact qS

def tX c_:=kk tok mixed Tryz.func157 [av c_.cells] (fun x=>av x.cells) true (Dh c_) (aby c_) (u0 (Zv c_))
def xC (a:Int) (b:Int):Sk (Int) :=
 .r 1 (.aj (.o [.eG (fm dm [a,b])]) ((ra [a,b]).c)) fun x1 =>
 .fin x1
def dN a b:=(xC a b).val
theorem UL (a:Int) (b:Int):(xC a b).bC (fun _=>True):=by
  unfold xC
  try simp only [ra]
  exact qS

def iG a b:=kk tok mixed Tryz.func20 [iv a,iv b] (fun x=>iv x) true (xC a b) (dN a b) (u0 (UL a b))
/-- two R5 with I5 same key -/
def gx (x y:Claim):Prop:=x.bL=y.bL∧x.aH=y.aH∧x.part=y.part∧x.sign=y.sign∧x.c9=y.c9
/-- a kU put to others: I5 first one of its key is aia by f,or it is new -/
def uE (f:Claim→Claim) (l:List Claim) (c:Claim) (x:List Claim):Prop :=
  (∃ i,i < l.length∧gx (l.getD i default) c∧x=l.set i (f (l.getD i default)))∨((∀ i,i < l.length→¬ gx (l.getD i default) c)∧x=l++[c])
def fG (c x:Claim):Claim:={ x with sum:=bX x.sum c.sum,state:=dN c.state x.state }
def fJ (c x:Claim):Claim:={ x with sum:=cq 1099511627776 (ar (x.sum+c.sum)),state:=dN x.state c.state }
/-- YA a KG aiD from a kU -/
def j2 (a:bD) (x:Claim):Int:=cq (bX 0 a.sum) (bX 0 x.sum)
def iq (a:bD) (st:Bool) (x:Claim):Claim:=bif eE a st x then { x with sum:=ar (bX 0 x.sum - j2 a x) } else x
/-- I5 same but for sum and state -/
def Cu (x y:Claim):Prop:=gx x y∧x.dF=y.dF∧x.au=y.au
theorem Cu.rfl' (x:Claim):Cu x x:=⟨⟨rfl,rfl,rfl,rfl,rfl⟩,rfl,rfl⟩
theorem Cu.trans {x y z:Claim} (h:Cu x y) (k:Cu y z):Cu x z:=⟨⟨h.1.1.trans k.1.1,h.1.2.1.trans k.1.2.1,h.1.2.2.1.trans k.1.2.2.1,h.1.2.2.2.1.trans k.1.2.2.2.1,h.1.2.2.2.2.trans k.1.2.2.2.2⟩,h.2.1.trans k.2.1,h.2.2.trans k.2.2⟩
/-- a agU sum and state are as aiZ may be -/
def Gn (x:Claim):Prop:=l9 x.sum∧(x.state=1∨x.state=2)
theorem WT {a b:Int} (ha:a=1∨a=2) (hb:b=1∨b=2):dN a b=1∨dN a b=2:=by
  rcases ha with rfl | rfl <;> rcases hb with rfl | rfl
  · exact .inl (by kernel_rfl)
  · exact .inr (by kernel_rfl)
  · exact .inr (by kernel_rfl)
  · exact .inr (by kernel_rfl)
/-- a kU VP comes of a KG for a kU of l -/
def Sub (l:List Claim) (a:bD) (c:Claim):Prop:=(c.aH=a.dQ∧c.c9=a.at_∧c.bL≠a.dQ)∧(∃ x∈l,x.bL=c.bL∧x.part=c.part∧x.sign=c.sign∧x.au=c.au)∧((∀ x∈l,Gn x)→Gn c)
def Na (l:List Claim) (a:bD) (o9:List Claim):Prop:=(∀ c∈o9,Sub l a c)∧o9.Pairwise fun x y=>¬ gx x y
theorem abz {a b:Int} (ha:l9 a) (hb:l9 b):l9 (bX a b):=by unfold bX l9 at *; split <;> omega
theorem gx.comm {x y:Claim} (h:gx x y):gx y x:=⟨h.1.symm,h.2.1.symm,h.2.2.1.symm,h.2.2.2.1.symm,h.2.2.2.2.symm⟩
theorem gx.tr {x y z:Claim} (h:gx x y) (k:gx y z):gx x z:=⟨h.1.trans k.1,h.2.1.trans k.2.1,h.2.2.1.trans k.2.2.1,h.2.2.2.1.trans k.2.2.2.1,h.2.2.2.2.trans k.2.2.2.2⟩
theorem UM {l:List Claim} {i:Nat} {y x:Claim} (h:x∈l.set i y):x=y∨x∈l:=by
  rcases List.mem_or_eq_of_mem_set h with h | h
  · exact .inr h
  · exact .inl h
theorem oa {l:List Claim} {i:Nat} (h:i < l.length):l.getD i default∈l:=vR h _
theorem Gp {l:List Claim} {i j:Nat} {y:Claim} (h:j < l.length):(l.set i y).getD j default=if i=j then y else l.getD j default:=by
  simp only [List.getD,List.getElem?_set]
  split
  · subst_vars; simp [h]
  · rfl
theorem Na.group {l:List Claim} {a:bD} {o9 x:List Claim} {c:Claim} (h:Na l a o9) (hc:Sub l a c) (hm:uE (fG c) o9 c x):Na l a x:=by
  rcases hm with ⟨i,hi,hk,rfl⟩ | ⟨hn,rfl⟩
  · have hs:=h.1 _ (oa hi)
    have hx:gx (fG c (o9.getD i default)) (o9.getD i default):=⟨rfl,rfl,rfl,rfl,rfl⟩
    refine ⟨fun z hz=>?_,?_⟩
    · rcases UM hz with rfl | hz
      · exact ⟨hs.1,hs.2.1,fun hP=>⟨abz (hs.2.2 hP).1 (hc.2.2 hP).1,WT (hc.2.2 hP).2 (hs.2.2 hP).2⟩⟩
      · exact h.1 z hz
    · rw [List.pairwise_iff_getElem]
      intro p q hp hq hpq
      have hp':p < o9.length:=by simpa using hp
      have QP:q < o9.length:=by simpa using hq
      have h0:=List.pairwise_iff_getElem.1 h.2 p q hp' QP hpq
      simp only [List.getElem_set]
      have e:∀ j (hj:j < o9.length),i=j→gx (fG c (o9.getD i default)) o9[j]:=by
        rintro j hj rfl
        simpa [List.getD,hj] using hx
      intro hk2
      apply h0
      split at hk2 <;> split at hk2
      · omega
      · exact (e p hp' ‹_›).comm.tr hk2
      · exact hk2.tr (e q QP ‹_›)
      · exact hk2
  · refine ⟨fun z hz=>?_,?_⟩
    · rcases List.mem_append.1 hz with hz | hz
      · exact h.1 z hz
      · rw [List.mem_singleton.1 hz]; exact hc
    · rw [List.pairwise_append]
      refine ⟨h.2,List.pairwise_singleton _ _,fun x hx y hy=>?_⟩
      rw [List.mem_singleton.1 hy]
      obtain ⟨j,hj,rfl⟩:=List.getElem_of_mem hx
      have:=hn j hj
      rwa [show o9.getD j default=o9[j] by simp [List.getD,hj]] at this
/-- a list agV twins is not aib ai0 one VP holds it -/
theorem Qo {α:Type}:∀ (l D:List α),l.Pairwise (·≠·)→(∀ x∈l,x∈D)→l.length≤D.length
  | [],D,_,_=>Nat.zero_le _
  | x :: r,D,hp,hs=>by
    classical
    have hx:x∈D:=hs x (by simp)
    rw [List.pairwise_cons] at hp
    have:=Qo r (D.erase x) hp.2 (fun y hy=>(List.mem_erase_of_ne (fun e=>hp.1 y hy e.symm)).2 (hs y (by simp [hy])))
    rw [List.length_erase_of_mem hx] at this
    have NZ:0 < D.length:=List.length_pos_of_mem hx
    simp only [List.length_cons]
    omega
def UN (x:Claim):Int × Int × Int:=(x.bL,x.part,x.sign)
theorem Na.len {l:List Claim} {a:bD} {o9:List Claim} (h:Na l a o9) {D:List (Int × Int × Int)} (hD:∀ x∈l,UN x∈D):o9.length≤D.length:=by
  have:=Qo (o9.map UN) D ?_ ?_
  · simpa using this
  · rw [List.pairwise_map]
    refine List.Pairwise.imp_of_mem ?_ h.2
    intro x y hx hy vD e
    have hx:=(h.1 x hx).1
    have hy:=(h.1 y hy).1
    simp only [UN,Prod.mk.injEq] at e
    exact vD ⟨e.1,hx.1.trans hy.1.symm,e.2.1,e.2.2,hx.2.1.trans hy.2.1.symm⟩
  · intro z hz
    obtain ⟨c,hc,rfl⟩:=List.mem_map.1 hz
    obtain ⟨x,hx,e1,e2,e3,-⟩:=(h.1 c hc).2.1
    have:=hD x hx
    rwa [show UN x=UN c by simp [UN,e1,e2,e3]] at this
/-- I5 R5 while I5 KG goes over aff -/
def HZ (l:List Claim) (a:bD) (st:Bool) (k:Nat) (out o9:List Claim):Prop :=
  out.length=l.length∧(∀ i,i < l.length→out.getD i default=if i < k then iq a st (l.getD i default) else l.getD i default)∧Na l a o9
theorem HZ.init (l:List Claim) (a:bD) (st:Bool):HZ l a st 0 l []:=⟨rfl,fun i _=>by simp,fun c hc=>by simp at hc,.nil⟩
theorem HZ.skip {l:List Claim} {a:bD} {st:Bool} {k:Nat} {out o9:List Claim} (h:HZ l a st k out o9) (hk:k < l.length) (hm:eE a st (l.getD k default)=false):HZ l a st (k+1) out o9:=by
  refine ⟨h.1,fun i hi=>?_,h.2.2⟩
  rw [h.2.1 i hi]
  by_cases hik:i=k
  · subst hik; rw [if_neg (Nat.lt_irrefl i),if_pos (Nat.lt_succ_self i)]; unfold iq; rw [hm]; rfl
  · by_cases h1:i < k
    · rw [if_pos h1,if_pos (by omega)]
    · rw [if_neg h1,if_neg (by omega)]
theorem HZ.meet {l:List Claim} {a:bD} {st:Bool} {k:Nat} {out o9 agr:List Claim} (h:HZ l a st k out o9) (hk:k < l.length) (hm:eE a st (l.getD k default)=true) (hi:Na l a agr) :
    HZ l a st (k+1) (out.set k { out.getD k default with sum:=ar (bX 0 (l.getD k default).sum - j2 a (l.getD k default)) }) agr:=by
  have SQ:=h.2.1 k hk
  rw [if_neg (Nat.lt_irrefl k)] at SQ
  refine ⟨by rw [List.length_set]; exact h.1,fun i hi=>?_,hi⟩
  rw [Gp (by rw [h.1]; exact hi)]
  by_cases hik:k=i
  · subst hik; rw [if_pos rfl,if_pos (by omega),SQ]; unfold iq; rw [hm]; rfl
  · rw [if_neg hik,h.2.1 i hi]
    by_cases h1:i < k
    · rw [if_pos h1,if_pos (by omega)]
    · rw [if_neg h1,if_neg (by omega)]
theorem UO {l:List Claim} {a:bD} {c:Claim} (hc:c∈l) (hd:c.bL≠a.dQ) (s:Int) (hs:s=j2 a c):Sub l a { c with aH:=a.dQ,c9:=a.at_,sum:=s }:=by
  subst hs
  refine ⟨⟨rfl,rfl,hd⟩,⟨c,hc,rfl,rfl,rfl,rfl⟩,fun hP=>?_⟩
  have:=(hP c hc).1
  refine ⟨?_,(hP c hc).2⟩
  unfold l9 at *
  show 0≤j2 a c∧j2 a c≤1099511627776
  unfold j2 cq bX
  constructor <;> (repeat' split) <;> omega
/-- I5 R5 while I5 new ot are aic to aff -/
def Inv1 (a:bD) (m o9:List Claim) (k:Nat) (v:List Claim):Prop :=
  (m.length≤v.length∧v.length≤m.length+k)∧(∀ i,i < m.length→Cu (v.getD i default) (m.getD i default)∧((m.getD i default).aH≠a.dQ→v.getD i default=m.getD i default)) ∧
    (∀ i,m.length≤i→i < v.length→∃ c∈o9,Cu (v.getD i default) c)∧((∀ x∈m,Gn x)→(∀ x∈o9,Gn x)→∀ x∈v,Gn x)
theorem Inv1.init (a:bD) (m o9:List Claim):Inv1 a m o9 0 m:=⟨⟨Nat.le_refl _,Nat.le_refl _⟩,fun i hi=>⟨Cu.rfl' _,fun _=>rfl⟩,fun i h1 h2=>absurd h2 (by omega),fun h _=>h⟩
theorem abA {c x:Claim} (hc:Gn c) (hx:Gn x):Gn (fJ c x):=by
  refine ⟨?_,WT hx.2 hc.2⟩
  unfold Gn l9 at *
  show 0≤cq _ _∧cq _ _≤_
  rw [aA (by omega) (by omega)]
  unfold cq; split <;> omega
theorem Inv1.step {a:bD} {m o9 v x:List Claim} {k:Nat} {c:Claim} (h:Inv1 a m o9 k v) (hc:c∈o9) (hw:c.aH=a.dQ) (hm:uE (fJ c) v c x):Inv1 a m o9 (k+1) x:=by
  obtain ⟨⟨h1,h2⟩,h3,h4,h5⟩:=h
  rcases hm with ⟨i,hi,hk,rfl⟩ | ⟨hn,rfl⟩
  · have hl:Cu (fJ c (v.getD i default)) (v.getD i default):=⟨⟨rfl,rfl,rfl,rfl,rfl⟩,rfl,rfl⟩
    refine ⟨⟨by simpa using h1,by rw [List.length_set]; omega⟩,fun j hj=>?_,fun j hj VE=>?_,fun hP hQ z hz=>?_⟩
    · rw [Gp (by omega)]
      split
      · subst_vars
        refine ⟨hl.trans (h3 _ hj).1,fun vD=>absurd ?_ vD⟩
        have e2:=hk.2.1
        have e3:=(h3 _ hj).1.1.2.1
        rw [← e3,e2,hw]
      · exact h3 j hj
    · rw [List.length_set] at VE
      rw [Gp VE]
      split
      · subst_vars
        obtain ⟨d,hd,e⟩:=h4 _ hj VE
        exact ⟨d,hd,hl.trans e⟩
      · exact h4 j hj VE
    · rcases UM hz with rfl | hz
      · exact abA (hQ c hc) (h5 hP hQ _ (oa hi))
      · exact h5 hP hQ z hz
  · have e:∀ j,j < v.length→(v++[c]).getD j default=v.getD j default:=fun j hj=>by simp [List.getD,List.getElem?_append_left hj]
    refine ⟨⟨by simp; omega,by simp; omega⟩,fun j hj=>?_,fun j hj VE=>?_,fun hP hQ z hz=>?_⟩
    · rw [e j (by omega)]; exact h3 j hj
    · by_cases hjv:j < v.length
      · rw [e j hjv]; exact h4 j hj hjv
      · have:j=v.length:=by simp at VE; omega
        subst this
        exact ⟨c,hc,by simp [List.getD]; exact Cu.rfl' _⟩
    · rcases List.mem_append.1 hz with hz | hz
      · exact h5 hP hQ z hz
      · rw [List.mem_singleton.1 hz]; exact hQ c hc
/-- YA a KG makes of R5 -/
structure AA (l:List Claim) (a:bD) (st:Bool) (out:List Claim):Prop where
  len:l.length≤out.length
  old:∀ i,i < l.length→Cu (out.getD i default) (l.getD i default)∧((l.getD i default).aH≠a.dQ→out.getD i default=iq a st (l.getD i default))
  new:∀ i,l.length≤i→i < out.length→(out.getD i default).aH=a.dQ∧(out.getD i default).c9=a.at_∧(out.getD i default).bL≠a.dQ∧∃ x∈l,x.bL=(out.getD i default).bL∧x.part=(out.getD i default).part∧x.sign=(out.getD i default).sign∧x.au=(out.getD i default).au
  Ro:(∀ x∈l,Gn x)→∀ x∈out,Gn x
  few:∀ D:List (Int × Int × Int),(∀ x∈l,UN x∈D)→out.length≤l.length+D.length
theorem Gq (a:bD) (st:Bool) (x:Claim):Cu (iq a st x) x:=by
  unfold iq
  cases eE a st x
  · exact Cu.rfl' x
  · exact ⟨⟨rfl,rfl,rfl,rfl,rfl⟩,rfl,rfl⟩
theorem KH {a:bD} {st:Bool} {x:Claim} (h:Gn x):Gn (iq a st x):=by
  unfold iq
  cases eE a st x
  · exact h
  · refine ⟨?_,h.2⟩
    unfold Gn l9 at *
    have h1:0≤j2 a x∧j2 a x≤x.sum:=by unfold j2 cq bX; constructor <;> (repeat' split) <;> omega
    have h2:bX 0 x.sum=x.sum:=by unfold bX; split <;> omega
    show 0≤ar _∧ar _≤_
    rw [h2,aA (by omega) (by omega)]
    omega
theorem AA.mk' {l:List Claim} {a:bD} {st:Bool} {m o9 v:List Claim} {k n:Nat} (h0:HZ l a st n m o9) (hn:n=l.length) (h1:Inv1 a m o9 k v) (hk:k≤o9.length):AA l a st v:=by
  subst hn
  obtain ⟨hl,hr,hi⟩:=h0
  obtain ⟨⟨h11,h12⟩,h13,h14,h15⟩:=h1
  have hr':∀ i,i < l.length→m.getD i default=iq a st (l.getD i default):=fun i h=>by rw [hr i h,if_pos h]
  refine ⟨by omega,fun i h=>?_,fun i h h2=>?_,fun hP=>?_,fun D hD=>?_⟩
  · have h3:=h13 i (by omega)
    rw [hr' i h] at h3
    refine ⟨h3.1.trans (Gq a st _),fun vD=>h3.2 ?_⟩
    rw [(Gq a st (l.getD i default)).1.2.1]
    exact vD
  · obtain ⟨c,hc,e⟩:=h14 i (by omega) h2
    obtain ⟨⟨k1,k2,k3⟩,⟨x,hx,e1,e2,e3,e4⟩,-⟩:=hi.1 c hc
    obtain ⟨⟨f1,f2,f3,f4,f5⟩,-,f6⟩:=e
    exact ⟨f2.trans k1,f5.trans k2,fun z=>k3 (f1 ▸ z),x,hx,e1.trans f1.symm,e2.trans f3.symm,e3.trans f4.symm,e4.trans f6.symm⟩
  · refine h15 (fun x hx=>?_) (fun x hx=>(hi.1 x hx).2.2 hP)
    obtain ⟨i,gP,rfl⟩:=List.getElem_of_mem hx
    have:=hr' i (by omega)
    rw [show m.getD i default=m[i] by simp [List.getD,gP]] at this
    rw [this]
    exact KH (hP _ (oa (by omega)))
  · have:=hi.len hD
    omega
theorem R6 {x c:Claim}:((x.bL == c.bL)&&((x.aH == c.aH)&&((x.part == c.part)&&((x.sign == c.sign)&&((x.c9 == c.c9)&&true)))))=true↔gx x c:=by
  simp only [Bool.and_eq_true,beq_iff_eq,Bool.and_true]
  exact Iff.rfl
theorem Yd {l:List Claim} {i:Nat} (h:i < l.length) (y:Claim) (s:Int):(l.set i y).set i { (l.set i y).getD i default with state:=s }=l.set i { y with state:=s }:=by
  rw [List.set_set,Gp h,if_pos rfl]
theorem Ye {l:List Claim} {c:Claim} {i:Nat} (h:∀ q,q < i→¬ gx (l.getD q default) c) (hk:(((l.getD i default).bL == c.bL)&&(((l.getD i default).aH == c.aH)&&(((l.getD i default).part == c.part)&&(((l.getD i default).sign == c.sign)&&(((l.getD i default).c9 == c.c9)&&true)))))=false):∀ q,q < i+1→¬ gx (l.getD q default) c:=by
  intro q hq e
  by_cases h1:q < i
  · exact h q h1 e
  · obtain rfl:q=i:=by omega
    rw [R6.2 e] at hk
    cases hk
theorem uE.len {f:Claim→Claim} {l x:List Claim} {c:Claim} (h:uE f l c x):x.length≤l.length+1:=by
  rcases h with ⟨i,hi,-,rfl⟩ | ⟨-,rfl⟩
  · rw [List.length_set]; omega
  · simp
def pa (l:List Claim) (c_:Claim):Sk ((List Claim)) :=
 .bind true (fun b1=>∀ q,q < l.length→¬ gx (l.getD q default) c_)
 (.loop (default:Sum ((List Claim)) (Unit)) (fun i2=>i2≤l.length∧∀ q,q < i2→¬ gx (l.getD q default) c_) (fun i2=>l.length - i2) (0:Nat)
 (fun (i2:Nat)=>⟨[(9,iv ((i2:Nat):Int))],[]⟩) fun i2 =>
 .lt 0 0 i2 l.length
 (.r 3 (.aj (.p (bU ((i2:Nat):Int) l.length)) (.p (i2 < l.length))) fun _ =>
 .r 4 (.dep ((tX (l.getD i2 default)).c) fun _=>(tX c_).c) fun p6 =>
 .br ((p6.1.bL == p6.2.bL)&&((p6.1.aH == p6.2.aH)&&((p6.1.part == p6.2.part)&&((p6.1.sign == p6.2.sign)&&((p6.1.c9 == p6.2.c9)&&true)))))
 (.r 5 (.aj (.p (bU ((i2:Nat):Int) l.length)) (.aj (.o [.eG (uf Claim.E l i2 ({ l.getD i2 default with sum:=bX ((l.getD i2 default).sum) c_.sum }))]) (.p (i2 < l.length)))) fun _ =>
 .wn 777776 l.length (l.set i2 ({ l.getD i2 default with sum:=bX ((l.getD i2 default).sum) c_.sum })).length <|
 .r 6 (.py ((iG c_.state ((l.getD i2 default).state)).c) fun x5=>.aj (.p (bU ((i2:Nat):Int) ((l.set i2 ({ l.getD i2 default with sum:=bX ((l.getD i2 default).sum) c_.sum })).length))) (.aj (.o [.eG (uf Claim.E (l.set i2 ({ l.getD i2 default with sum:=bX ((l.getD i2 default).sum) c_.sum })) i2 ({ (l.set i2 ({ l.getD i2 default with sum:=bX ((l.getD i2 default).sum) c_.sum })).getD i2 default with state:=x5 }))]) (.p (i2 < (l.set i2 ({ l.getD i2 default with sum:=bX ((l.getD i2 default).sum) c_.sum })).length)))) fun x5 =>
 .wn 777776 (l.set i2 ({ l.getD i2 default with sum:=bX ((l.getD i2 default).sum) c_.sum })).length ((l.set i2 ({ l.getD i2 default with sum:=bX ((l.getD i2 default).sum) c_.sum })).set i2 ({ (l.set i2 ({ l.getD i2 default with sum:=bX ((l.getD i2 default).sum) c_.sum })).getD i2 default with state:=x5 })).length <|
 .fin (.inl (.inl ((l.set i2 ({ l.getD i2 default with sum:=bX ((l.getD i2 default).sum) c_.sum })).set i2 ({ (l.set i2 ({ l.getD i2 default with sum:=bX ((l.getD i2 default).sum) c_.sum })).getD i2 default with state:=x5 })))))
 (.nx 8 9 i2 (i2+1)))
 (.fin (.inl (.inr ()))))
 (fun (_:Unit)=>⟨[],[]⟩) fun _ =>
 .r 9 (.aj (.o [.eG (fm Claim.E [c_])]) (.aj (.o [.eG (mX Claim.E l [c_])]) (.aj (.t (Claim.E.ot [c_])) (.p (yB l.length [c_].length 72))))) fun _ =>
 .fin (l++[c_])
def rb l c_:=(pa l c_).val
theorem Pk (l:List Claim) (c_:Claim):(pa l c_).dj (fun (x:(List Claim))=>uE (fG c_) l c_ x):=by
  refine Sk.bz _ ?_
  unfold pa
  simp only [Sk.de,Sk.aI,reduceCtorEq,ON,kk,kp,iG,tX,Di,forall_eq,maxLen]
  refine ⟨⟨⟨Nat.zero_le _,fun q hq=>absurd hq (by omega)⟩,fun i hi=>⟨fun hc _=>⟨fun hk _=>?_,fun hk _=>⟨⟨?_,Ye hi.2 hk⟩,by simp only [LN] at hc; omega⟩⟩,fun hc=>?_⟩⟩,fun _ hb _=>.inr ⟨hb,rfl⟩⟩
  all_goals simp only [LN] at hc
  · exact .inl ⟨i,by omega,R6.1 hk,Yd (by omega) _ _⟩
  · omega
  · exact fun q hq=>hi.2 q (by omega)

theorem Cv (l:List Claim) (c_:Claim):(fun (x:(List Claim))=>uE (fG c_) l c_ x) (rb l c_):=have h:=Sk.dk _ (Pk l c_); h
theorem R7 (l:List Claim) (c_:Claim) (hl:l.length≤1000000000000):(pa l c_).bC (fun _=>True):=by
  refine Sk.aR _ ?_
  unfold pa
  simp only [Sk.jt,Sk.aI,reduceCtorEq,ON,kk,kp,iG,tX,Di,forall_eq,maxLen]
  refine ⟨⟨⟨Nat.zero_le _,fun q hq=>absurd hq (by omega)⟩,fun i hi hm=>⟨fun hc=>?_,fun hc q hq=>hi.2 q (by simp only [LN] at hc; omega)⟩⟩,fun b hb=>?_⟩
  · simp only [LN] at hc
    refine ⟨⟨⟨by omega,by omega⟩,by omega⟩,fun _=>⟨fun hk=>?_,fun hk _=>⟨(aA (by omega) (by omega)).trans (by omega),⟨by omega,Ye hi.2 hk⟩,by omega⟩⟩⟩
    simp only [List.length_set]
    refine ⟨⟨⟨by omega,by omega⟩,by omega⟩,fun _=>?_⟩
    (repeat' first | exact trivial | (apply And.intro) | (intro h))
    all_goals first | rfl | trivial | omega
  · simp only [List.length_cons,List.length_nil]
    omega

theorem Pl (l:List Claim) (c_:Claim) (hl:l.length≤1000000000000):gQ Tryz.prog 125 [ow 777776 l,av c_.cells] [(777776,bw 83 9 Claim.cells l)] (ow 777777 (rb l c_)) [(777777,bw 83 9 Claim.cells (rb l c_))] :=
  gQ.sk tok mixed (fun x=>ow 777777 x) (fun x=>[(777777,bw 83 9 Claim.cells x)]) Tryz.func125 rfl (by kernel_rfl) 3000 (pa l c_) (by kernel_rfl) (R7 l c_ hl)
def pb (κ κ':Nat) (l:List Claim) (c_:Claim):yR ((List Claim)):=⟨Tryz.prog,125,[ow κ l,av c_.cells],[(κ,bw 83 9 Claim.cells l)],fun x=>ow κ' x,fun x=>[(κ',bw 83 9 Claim.cells x)],rb l c_,(l.length≤1000000000000),fun h=>gQ.Wr κ rfl (gQ.Wq κ' (Pl l c_ h)),fun (x:(List Claim))=>uE (fG c_) l c_ x,Cv l c_⟩
def re (l:List Claim) (c_:Claim):Sk ((List Claim)) :=
 .bind true (fun b1=>∀ q,q < l.length→¬ gx (l.getD q default) c_)
 (.loop (default:Sum ((List Claim)) (Unit)) (fun i2=>i2≤l.length∧∀ q,q < i2→¬ gx (l.getD q default) c_) (fun i2=>l.length - i2) (0:Nat)
 (fun (i2:Nat)=>⟨[(9,iv ((i2:Nat):Int))],[]⟩) fun i2 =>
 .lt 0 0 i2 l.length
 (.r 3 (.aj (.p (bU ((i2:Nat):Int) l.length)) (.p (i2 < l.length))) fun _ =>
 .r 4 (.dep ((tX (l.getD i2 default)).c) fun _=>(tX c_).c) fun p6 =>
 .br ((p6.1.bL == p6.2.bL)&&((p6.1.aH == p6.2.aH)&&((p6.1.part == p6.2.part)&&((p6.1.sign == p6.2.sign)&&((p6.1.c9 == p6.2.c9)&&true)))))
 (.r 5 (.aj (.p (bU ((i2:Nat):Int) l.length)) (.aj (.o [.eG (uf Claim.E l i2 ({ l.getD i2 default with sum:=cq 1099511627776 (ar (((l.getD i2 default).sum)+c_.sum)) }))]) (.p (i2 < l.length)))) fun _ =>
 .wn 777776 l.length (l.set i2 ({ l.getD i2 default with sum:=cq 1099511627776 (ar (((l.getD i2 default).sum)+c_.sum)) })).length <|
 .r 6 (.py ((iG ((l.getD i2 default).state) c_.state).c) fun x5=>.aj (.p (bU ((i2:Nat):Int) ((l.set i2 ({ l.getD i2 default with sum:=cq 1099511627776 (ar (((l.getD i2 default).sum)+c_.sum)) })).length))) (.aj (.o [.eG (uf Claim.E (l.set i2 ({ l.getD i2 default with sum:=cq 1099511627776 (ar (((l.getD i2 default).sum)+c_.sum)) })) i2 ({ (l.set i2 ({ l.getD i2 default with sum:=cq 1099511627776 (ar (((l.getD i2 default).sum)+c_.sum)) })).getD i2 default with state:=x5 }))]) (.p (i2 < (l.set i2 ({ l.getD i2 default with sum:=cq 1099511627776 (ar (((l.getD i2 default).sum)+c_.sum)) })).length)))) fun x5 =>
 .wn 777776 (l.set i2 ({ l.getD i2 default with sum:=cq 1099511627776 (ar (((l.getD i2 default).sum)+c_.sum)) })).length ((l.set i2 ({ l.getD i2 default with sum:=cq 1099511627776 (ar (((l.getD i2 default).sum)+c_.sum)) })).set i2 ({ (l.set i2 ({ l.getD i2 default with sum:=cq 1099511627776 (ar (((l.getD i2 default).sum)+c_.sum)) })).getD i2 default with state:=x5 })).length <|
 .fin (.inl (.inl ((l.set i2 ({ l.getD i2 default with sum:=cq 1099511627776 (ar (((l.getD i2 default).sum)+c_.sum)) })).set i2 ({ (l.set i2 ({ l.getD i2 default with sum:=cq 1099511627776 (ar (((l.getD i2 default).sum)+c_.sum)) })).getD i2 default with state:=x5 })))))
 (.nx 8 9 i2 (i2+1)))
 (.fin (.inl (.inr ()))))
 (fun (_:Unit)=>⟨[],[]⟩) fun _ =>
 .r 9 (.aj (.o [.eG (fm Claim.E [c_])]) (.aj (.o [.eG (mX Claim.E l [c_])]) (.aj (.t (Claim.E.ot [c_])) (.p (yB l.length [c_].length 72))))) fun _ =>
 .fin (l++[c_])
def kI l c_:=(re l c_).val
theorem R8 (l:List Claim) (c_:Claim):(re l c_).dj (fun (x:(List Claim))=>uE (fJ c_) l c_ x):=by
  refine Sk.bz _ ?_
  unfold re
  simp only [Sk.de,Sk.aI,reduceCtorEq,ON,kk,kp,iG,tX,Di,forall_eq,maxLen]
  refine ⟨⟨⟨Nat.zero_le _,fun q hq=>absurd hq (by omega)⟩,fun i hi=>⟨fun hc _=>⟨fun hk _=>?_,fun hk _=>⟨⟨?_,Ye hi.2 hk⟩,by simp only [LN] at hc; omega⟩⟩,fun hc=>?_⟩⟩,fun _ hb _=>.inr ⟨hb,rfl⟩⟩
  all_goals simp only [LN] at hc
  · exact .inl ⟨i,by omega,R6.1 hk,Yd (by omega) _ _⟩
  · omega
  · exact fun q hq=>hi.2 q (by omega)

theorem D5 (l:List Claim) (c_:Claim):(fun (x:(List Claim))=>uE (fJ c_) l c_ x) (kI l c_):=have h:=Sk.dk _ (R8 l c_); h
theorem UP (l:List Claim) (c_:Claim) (hl:l.length≤1000000000000):(re l c_).bC (fun _=>True):=by
  refine Sk.aR _ ?_
  unfold re
  simp only [Sk.jt,Sk.aI,reduceCtorEq,ON,kk,kp,iG,tX,Di,forall_eq,maxLen]
  refine ⟨⟨⟨Nat.zero_le _,fun q hq=>absurd hq (by omega)⟩,fun i hi hm=>⟨fun hc=>?_,fun hc q hq=>hi.2 q (by simp only [LN] at hc; omega)⟩⟩,fun b hb=>?_⟩
  · simp only [LN] at hc
    refine ⟨⟨⟨by omega,by omega⟩,by omega⟩,fun _=>⟨fun hk=>?_,fun hk _=>⟨(aA (by omega) (by omega)).trans (by omega),⟨by omega,Ye hi.2 hk⟩,by omega⟩⟩⟩
    simp only [List.length_set]
    refine ⟨⟨⟨by omega,by omega⟩,by omega⟩,fun _=>?_⟩
    (repeat' first | exact trivial | (apply And.intro) | (intro h))
    all_goals first | rfl | trivial | omega
  · simp only [List.length_cons,List.length_nil]
    omega

theorem R9 (l:List Claim) (c_:Claim) (hl:l.length≤1000000000000):gQ Tryz.prog 126 [ow 777776 l,av c_.cells] [(777776,bw 83 9 Claim.cells l)] (ow 777777 (kI l c_)) [(777777,bw 83 9 Claim.cells (kI l c_))] :=
  gQ.sk tok mixed (fun x=>ow 777777 x) (fun x=>[(777777,bw 83 9 Claim.cells x)]) Tryz.func126 rfl (by kernel_rfl) 3000 (re l c_) (by kernel_rfl) (UP l c_ hl)
def rh (κ κ':Nat) (l:List Claim) (c_:Claim):yR ((List Claim)):=⟨Tryz.prog,126,[ow κ l,av c_.cells],[(κ,bw 83 9 Claim.cells l)],fun x=>ow κ' x,fun x=>[(κ',bw 83 9 Claim.cells x)],kI l c_,(l.length≤1000000000000),fun h=>gQ.Wr κ rfl (gQ.Wq κ' (R9 l c_ h)),fun (x:(List Claim))=>uE (fJ c_) l c_ x,D5 l c_⟩
def mw (l:List Claim) (a:bD) (kind:Int) (bO:Bool):Sk ((List Claim) × (List Step)) :=
 .r 2 ((qx 21 l).c) fun x1 =>
 .bind true (fun b2=>HZ l a bO l.length b2.1 b2.2.2∧b2.2.1.length≤l.length∧b2.2.2.length≤l.length)
 (.loop (default:Sum ((List Claim) × (List Step)) ((List Claim) × (List Step) × (List Claim))) (fun i3=>i3.2.2.2≤l.length∧HZ l a bO i3.2.2.2 i3.1 i3.2.2.1∧i3.2.1.length≤i3.2.2.2∧i3.2.2.1.length≤i3.2.2.2) (fun i3=>l.length - i3.2.2.2) ((x1,[],[],0):(List Claim) × (List Step) × (List Claim) × Nat)
 (fun (i3:(List Claim) × (List Step) × (List Claim) × Nat)=>⟨[(8,ow 100006 i3.1),(9,ow 100007 i3.2.1),(11,ow 100008 i3.2.2.1),(24,iv ((i3.2.2.2:Nat):Int))],[(100006,bw 83 9 Claim.cells i3.1),(100007,bw 179 4 Step.cells i3.2.1),(100008,bw 83 9 Claim.cells i3.2.2.1)]⟩) fun i3 =>
 .lt 22 0 i3.2.2.2 l.length
 (.r 6 (.p (bU ((i3.2.2.2:Nat):Int) l.length)) fun _ =>
 .r 7 ((xB a bO (l.getD i3.2.2.2 default)).c) fun x4 =>
 .br (!x4)
 (.nx 14 24 i3.2.2.2 (i3.1,i3.2.1,i3.2.2.1,i3.2.2.2+1))
 (.r 9 (.aj (.p (bU ((i3.2.2.2:Nat):Int) i3.1.length)) (.aj (.o [.eG (uf Claim.E i3.1 i3.2.2.2 ({ i3.1.getD i3.2.2.2 default with sum:=ar ((bX 0 ((l.getD i3.2.2.2 default).sum)) - (cq (bX 0 a.sum) (bX 0 ((l.getD i3.2.2.2 default).sum)))) }))]) (.p (i3.2.2.2 < i3.1.length)))) fun _ =>
 .wn 100006 i3.1.length (i3.1.set i3.2.2.2 ({ i3.1.getD i3.2.2.2 default with sum:=ar ((bX 0 ((l.getD i3.2.2.2 default).sum)) - (cq (bX 0 a.sum) (bX 0 ((l.getD i3.2.2.2 default).sum)))) })).length <|
 .r 10 (.aj (.o [.eG (fm Step.E [({ bL:=(l.getD i3.2.2.2 default).bL,aH:=(l.getD i3.2.2.2 default).aH,sign:=(l.getD i3.2.2.2 default).sign,sum:=cq (bX 0 a.sum) (bX 0 ((l.getD i3.2.2.2 default).sum)) }:Step)])]) (.aj (.o [.eG (mX Step.E i3.2.1 [({ bL:=(l.getD i3.2.2.2 default).bL,aH:=(l.getD i3.2.2.2 default).aH,sign:=(l.getD i3.2.2.2 default).sign,sum:=cq (bX 0 a.sum) (bX 0 ((l.getD i3.2.2.2 default).sum)) }:Step)])]) (.aj (.t (Step.E.ot [({ bL:=(l.getD i3.2.2.2 default).bL,aH:=(l.getD i3.2.2.2 default).aH,sign:=(l.getD i3.2.2.2 default).sign,sum:=cq (bX 0 a.sum) (bX 0 ((l.getD i3.2.2.2 default).sum)) }:Step)])) (.p (yB i3.2.1.length [({ bL:=(l.getD i3.2.2.2 default).bL,aH:=(l.getD i3.2.2.2 default).aH,sign:=(l.getD i3.2.2.2 default).sign,sum:=cq (bX 0 a.sum) (bX 0 ((l.getD i3.2.2.2 default).sum)) }:Step)].length 32))))) fun _ =>
 .br (((kind != 1)&&((((l.getD i3.2.2.2 default).dF) == 0)||(decide (((l.getD i3.2.2.2 default).sign) < a.at_))))&&(((l.getD i3.2.2.2 default).bL) != a.dQ))
 (.r 13 ((pb 100008 90 i3.2.2.1 ({ l.getD i3.2.2.2 default with aH:=a.dQ,c9:=a.at_,sum:=cq (bX 0 a.sum) (bX 0 ((l.getD i3.2.2.2 default).sum)) })).c) fun x5 =>
 .r 14 .z fun _ =>
 .wi 24 (ar (((i3.2.2.2:Nat):Int)+1)) ((i3.2.2.2+1:Nat):Int) <|
 .fin (.inr (i3.1.set i3.2.2.2 ({ i3.1.getD i3.2.2.2 default with sum:=ar ((bX 0 ((l.getD i3.2.2.2 default).sum)) - (cq (bX 0 a.sum) (bX 0 ((l.getD i3.2.2.2 default).sum)))) }),i3.2.1++[({ bL:=(l.getD i3.2.2.2 default).bL,aH:=(l.getD i3.2.2.2 default).aH,sign:=(l.getD i3.2.2.2 default).sign,sum:=cq (bX 0 a.sum) (bX 0 ((l.getD i3.2.2.2 default).sum)) }:Step)],x5,i3.2.2.2+1)))
 (.r 14 .z fun _ =>
 .wi 24 (ar (((i3.2.2.2:Nat):Int)+1)) ((i3.2.2.2+1:Nat):Int) <|
 .fin (.inr (i3.1.set i3.2.2.2 ({ i3.1.getD i3.2.2.2 default with sum:=ar ((bX 0 ((l.getD i3.2.2.2 default).sum)) - (cq (bX 0 a.sum) (bX 0 ((l.getD i3.2.2.2 default).sum)))) }),i3.2.1++[({ bL:=(l.getD i3.2.2.2 default).bL,aH:=(l.getD i3.2.2.2 default).aH,sign:=(l.getD i3.2.2.2 default).sign,sum:=cq (bX 0 a.sum) (bX 0 ((l.getD i3.2.2.2 default).sum)) }:Step)],i3.2.2.1,i3.2.2.2+1)))))
 (.fin (.inl (.inr (i3.1,i3.2.1,i3.2.2.1)))))
 (fun (b2:(List Claim) × (List Step) × (List Claim))=>⟨[(8,ow 100003 b2.1),(9,ow 100004 b2.2.1),(11,ow 100005 b2.2.2)],[(100003,bw 83 9 Claim.cells b2.1),(100004,bw 179 4 Step.cells b2.2.1),(100005,bw 83 9 Claim.cells b2.2.2)]⟩) fun b2 =>
 .bind true (fun b6=>Inv1 a b2.1 b2.2.2 b2.2.2.length b6)
 (.loop (default:Sum ((List Claim) × (List Step)) ((List Claim))) (fun i7=>i7.2≤b2.2.2.length∧Inv1 a b2.1 b2.2.2 i7.2 i7.1) (fun i7=>b2.2.2.length - i7.2) ((b2.1,0):(List Claim) × Nat)
 (fun (i7:(List Claim) × Nat)=>⟨[(8,ow 100011 i7.1),(94,iv ((i7.2:Nat):Int))],[(100011,bw 83 9 Claim.cells i7.1)]⟩) fun i7 =>
 .lt 92 0 i7.2 b2.2.2.length
 (.r 17 (.aj (.p (bU ((i7.2:Nat):Int) b2.2.2.length)) (.p (i7.2 < b2.2.2.length))) fun _ =>
 .r 18 ((rh 100011 100 i7.1 (b2.2.2.getD i7.2 default)).c) fun x8 =>
 .nx 19 94 i7.2 (x8,i7.2+1))
 (.fin (.inl (.inr i7.1))))
 (fun (b6:(List Claim))=>⟨[(8,ow 100010 b6)],[(100010,bw 83 9 Claim.cells b6)]⟩) fun b6 =>
 .fz 100004 <|
 .fin (b6,b2.2.1)
def kd l a kind bO:=(mw l a kind bO).val
theorem Pm (l:List Claim) (a:bD) (kind:Int) (bO:Bool):(mw l a kind bO).dj (fun (x:(List Claim) × (List Step))=>AA l a bO x.1):=by
  refine Sk.bz _ ?_
  unfold mw
  simp only [Sk.de,Sk.aI,reduceCtorEq,ON,kk,kp,pb,rh,xB,qx,pb,rh,yR.c,kH,forall_eq,maxLen]
  intro hx
  refine ⟨⟨⟨Nat.zero_le _,by rw [hx.2]; exact HZ.init l a bO,Nat.le_refl _,Nat.le_refl _⟩,fun i hi=>⟨fun hc _=>?_,fun hc=>?_⟩⟩,fun b hb=>⟨⟨⟨Nat.zero_le _,Inv1.init a _ _⟩,fun i hi=>⟨fun hc _ hM _=>?_,fun hc=>?_⟩⟩,fun b1 XJ=>AA.mk' hb.1 rfl XJ (Nat.le_refl _)⟩⟩
  all_goals simp only [LN] at hc
  · have hk:i.2.2.2 < l.length:=by omega
    have hi2:=hi.2.2
    refine ⟨fun hm _=>⟨⟨by omega,hi.2.1.skip hk (by rw [kH]; exact (Bool.not_eq_true' _).mp hm),by omega,by omega⟩,by omega⟩,fun hm _ _=>?_⟩
    have Bq:eE a bO (l.getD i.2.2.2 default)=true:=by rw [kH]; exact (Bool.not_eq_false' _).mp hm
    refine ⟨fun hg hM _=>⟨⟨by omega,hi.2.1.meet hk Bq (hi.2.1.2.2.group (UO (oa hk) ?_ _ rfl) hM),?_,?_⟩,by omega⟩,fun _ _=>⟨⟨by omega,hi.2.1.meet hk Bq hi.2.1.2.2,?_,by omega⟩,by omega⟩⟩
    · simp only [LN] at hg
      exact hg.2
    · rw [List.length_append,List.length_singleton]; omega
    · exact Nat.le_trans hM.len (by omega)
    · rw [List.length_append,List.length_singleton]; omega
  · have e:i.2.2.2=l.length:=by omega
    rw [e] at hi
    exact hi.2
  · have hk:i.2 < b.2.2.length:=by omega
    have VC:=hb.1.2.2.1 _ (oa hk)
    exact ⟨⟨by omega,hi.2.step (oa hk) VC.1.1 hM⟩,by omega⟩
  · have e:i.2=b.2.2.length:=by omega
    rw [e] at hi
    exact hi.2

theorem Nb (l:List Claim) (a:bD) (kind:Int) (bO:Bool):(fun (x:(List Claim) × (List Step))=>AA l a bO x.1) (kd l a kind bO):=have h:=Sk.dk _ (Pm l a kind bO); h
theorem Sa (l:List Claim) (a:bD) (kind:Int) (bO:Bool) (hl:l.length≤1000000000):(mw l a kind bO).bC (fun _=>True):=by
  refine Sk.aR _ ?_
  unfold mw
  simp only [Sk.jt,Sk.aI,reduceCtorEq,ON,kk,kp,pb,rh,xB,qx,pb,rh,yR.c,kH,forall_eq,maxLen]
  refine ⟨hl,fun hx=>⟨⟨⟨Nat.zero_le _,by rw [hx.2]; exact HZ.init l a bO,Nat.le_refl _,Nat.le_refl _⟩,fun i hi hmx=>⟨fun hc=>?_,fun hc=>?_⟩⟩,fun b hb=>⟨⟨Nat.zero_le _,Inv1.init a _ _⟩,fun i hi hmx=>⟨fun hc=>?_,fun hc=>?_⟩⟩⟩⟩
  all_goals simp only [LN] at hc
  · have hk:i.2.2.2 < l.length:=by omega
    have hi2:=hi.2.2
    have hol:=hi.2.1.1
    have hw:ar ((i.2.2.2:Int)+1)=((i.2.2.2+1:Nat):Int):=(aA (by omega) (by omega)).trans (by omega)
    refine ⟨⟨by omega,by omega⟩,fun _=>⟨fun hm _=>⟨hw,⟨by omega,hi.2.1.skip hk (by rw [kH]; exact (Bool.not_eq_true' _).mp hm),by omega,by omega⟩,by omega⟩,fun hm=>⟨⟨⟨by omega,by omega⟩,by omega⟩,fun _=>⟨by rw [List.length_set],⟨by simp only [List.length_singleton]; omega,by simp only [List.length_singleton]; omega⟩,fun _=>?_⟩⟩⟩⟩
    have Bq:eE a bO (l.getD i.2.2.2 default)=true:=by rw [kH]; exact (Bool.not_eq_false' _).mp hm
    refine ⟨fun hg=>⟨by omega,fun hM _=>⟨hw,⟨by omega,hi.2.1.meet hk Bq (hi.2.1.2.2.group (UO (oa hk) ?_ _ rfl) hM),?_,?_⟩,by omega⟩⟩,fun _ _=>⟨hw,⟨by omega,hi.2.1.meet hk Bq hi.2.1.2.2,?_,by omega⟩,by omega⟩⟩
    · simp only [LN] at hg
      exact hg.2
    · rw [List.length_append,List.length_singleton]; omega
    · exact Nat.le_trans hM.len (by omega)
    · rw [List.length_append,List.length_singleton]; omega
  · have e:i.2.2.2=l.length:=by omega
    rw [e] at hi
    exact hi.2
  · have hk:i.2 < b.2.2.length:=by omega
    have VC:=hb.1.2.2.1 _ (oa hk)
    have hln:=hi.2.1
    have hol:=hb.1.1
    exact ⟨⟨⟨by omega,by omega⟩,hk⟩,fun _=>⟨by omega,fun hM _=>⟨(aA (by omega) (by omega)).trans (by omega),⟨by omega,hi.2.step (oa hk) VC.1.1 hM⟩,by omega⟩⟩⟩
  · have e:i.2=b.2.2.length:=by omega
    rw [e] at hi
    exact hi.2

theorem Pn (l:List Claim) (a:bD) (kind:Int) (bO:Bool) (hl:l.length≤1000000000):gQ Tryz.prog 95 [lv Claim.cells l,av a.cells,iv kind,bv bO] [] (.fD [ow 777777 (kd l a kind bO).1,lv Step.cells ((kd l a kind bO).2)]) [(777777,bw 83 9 Claim.cells (kd l a kind bO).1)] :=
  gQ.sk tok mixed (fun x=>.fD [ow 777777 x.1,lv Step.cells x.2]) (fun x=>[(777777,bw 83 9 Claim.cells x.1)]) Tryz.func95 rfl (by kernel_rfl) 3000 (mw l a kind bO) (by kernel_rfl) (Sa l a kind bO hl)
def vi (κ:Nat) (l:List Claim) (a:bD) (kind:Int) (bO:Bool):jZ ((List Claim) × (List Step)):=⟨Tryz.prog,95,[lv Claim.cells l,av a.cells,iv kind,bv bO],fun x=>.fD [ow κ x.1,lv Step.cells x.2],fun x=>[(κ,bw 83 9 Claim.cells x.1)],kd l a kind bO,(l.length≤1000000000),fun h=>gQ.aaZ κ rfl (Pn l a kind bO h),fun (x:(List Claim) × (List Step))=>AA l a bO x.1,Nb l a kind bO⟩
theorem UQ {β Y γ:Type} (g:Y→List β) {f:List β→Y→γ ⊕ List β}:∀ (l:List Y) (s:List β),(∀ s y,y∈l→f s y=.inr (s++g y))→ry f l s=.inr (s++l.flatMap g)
  | [],s,_=>by simp [ry]
  | y :: r,s,h=>by
    simp only [ry,h s y (by simp)]
    rw [UQ g r _ (fun s z hz=>h s z (by simp [hz]))]
    simp
theorem UR {α β ι δ:Type} [Inhabited α] (l:List α) (g:α→List β) (pack:List β→Nat→ι) {f:ι→δ ⊕ ι} {d:δ} (e:List β→δ)
    (hs:∀ s i,i < l.length→f (pack s i)=.inr (pack (s++g (l.getD i default)) (i+1))) (he:∀ s,f (pack s l.length)=.inl (e s)) {n:Nat} (hn:l.length < n) (s:List β):iter f d n (pack s 0)=e (s++l.flatMap g):=by
  rw [qD (d:=d) l pack (fun x s=>.inr (s++g x)) e hs he hn s,j4 (fun x s=>s++g x) e]
  congr 1
  clear hs he hn
  induction l generalizing s with
  | nil=>simp
  | cons x r ih=>rw [List.foldl_cons,ih]; simp
/-- a kU of an owner by a signature,if there is one -/
def qy (r:ah) (forum:Int) (f:ak) (day:Int) (c:fy) (eff:List cX) (links:List Int) (part:Int) (o:lO) (sign:Int):List Claim :=
  bif (aQ c o sign links eff).1 == 0||(c.view.now.af.getD sign.toNat default).dQ == o.gC then [] else
  [{ bL:=(c.view.now.af.getD sign.toNat default).dQ,aH:=o.gC,part:=part,sign:=sign,c9:=o.sign,dF:=(aQ c o sign links eff).2,sum:=(im r forum f sign day).rest,au:=f.aU.au,state:=(aQ c o sign links eff).1 }]
def Cw (r:ah) (forum:Int) (f:ak) (day:Int) (c:fy) (eff:List cX):List Claim :=
  c.view.lead.flatMap fun part=>(bK c (al c.view part)).flatMap fun o=>(bA c.view part o.sign (al c.view part)).flatMap fun sign=>qy r forum f day c eff (al c.view part) part o sign
theorem zB (r:ah) (forum:Int) (f:ak) (day:Int):cm r forum f day=bif !(aF r forum f day).2 then [] else Cw r forum f day (aF r forum f day).1 (aW r forum f day):=by
  unfold cm mU
  dsimp +instances only [Sk.dK,Sk.gd,Sk.iO,Sk.fB,Sk.js,Sk.l6,Sk.dn,Sk.aa0,ig.AY,kk,kp,HH,wm,sR,rY,sa,yn,ml,bH.rB]
  cases (aF r forum f day).2 with
  | false=>rfl
  | true =>
    simp only [Bool.not_true,cond_false]
    refine Eq.trans (congrArg (fun q=>iX q fun b=>b) (UR (aF r forum f day).1.view.lead (fun part=>(bK (aF r forum f day).1 (al (aF r forum f day).1.view part)).flatMap fun o=>(bA (aF r forum f day).1.view part o.sign (al (aF r forum f day).1.view part)).flatMap fun sign=>qy r forum f day (aF r forum f day).1 (aW r forum f day) (al (aF r forum f day).1.view part) part o sign) (fun s i=>(i,s)) (fun s=>Sum.inr s) (fun s i hi=>?_) (fun s=>?_) (by simp) [])) ?_
    · dsimp only
      rw [decide_eq_true (by omega),cond_true]
      rw [UQ (fun o=>(bA (aF r forum f day).1.view ((aF r forum f day).1.view.lead.getD i default) o.sign (al (aF r forum f day).1.view ((aF r forum f day).1.view.lead.getD i default))).flatMap fun sign=>qy r forum f day (aF r forum f day).1 (aW r forum f day) (al (aF r forum f day).1.view ((aF r forum f day).1.view.lead.getD i default)) ((aF r forum f day).1.view.lead.getD i default) o sign) _ s (fun s y _=>?_)]
      · rfl
      · refine Eq.trans (congrArg (fun q=>iX (iX q _) _) (UR (bA (aF r forum f day).1.view ((aF r forum f day).1.view.lead.getD i default) y.sign (al (aF r forum f day).1.view ((aF r forum f day).1.view.lead.getD i default))) (fun sign=>qy r forum f day (aF r forum f day).1 (aW r forum f day) (al (aF r forum f day).1.view ((aF r forum f day).1.view.lead.getD i default)) ((aF r forum f day).1.view.lead.getD i default) y sign) (fun s i=>(i,s)) (fun s=>Sum.inr (((bA (aF r forum f day).1.view ((aF r forum f day).1.view.lead.getD i default) y.sign (al (aF r forum f day).1.view ((aF r forum f day).1.view.lead.getD i default))).length:Int),s)) (fun s k hk=>?_) (fun s=>?_) (by simp) s)) ?_
        · dsimp only
          rw [decide_eq_true (by omega),cond_true]
          unfold qy
          cases (aQ (aF r forum f day).1 y ((bA (aF r forum f day).1.view ((aF r forum f day).1.view.lead.getD i default) y.sign (al (aF r forum f day).1.view ((aF r forum f day).1.view.lead.getD i default))).getD k default) (al (aF r forum f day).1.view ((aF r forum f day).1.view.lead.getD i default)) (aW r forum f day)).1 == 0||((aF r forum f day).1.view.now.af.getD ((bA (aF r forum f day).1.view ((aF r forum f day).1.view.lead.getD i default) y.sign (al (aF r forum f day).1.view ((aF r forum f day).1.view.lead.getD i default))).getD k default).toNat default).dQ == y.gC with
          | true=>simp only [cond_true,List.append_nil]
          | false=>simp only [cond_false]
        · dsimp only
          rw [decide_eq_false (by omega),cond_false]
        · rfl
    · dsimp only
      rw [decide_eq_false (by omega),cond_false]
    · rw [List.nil_append]
      rfl
theorem xD {α β:Type} {g:α→List β} {m:Nat}:∀ (l:List α),(∀ x,x∈l→(g x).length≤m)→(l.flatMap g).length≤l.length * m
  | [],_=>by simp
  | x :: r,h=>by
    have h1:=xD r (fun y hy=>h y (by simp [hy]))
    have h2:=h x (by simp)
    rw [List.flatMap_cons,List.length_append,List.length_cons,Nat.succ_mul]
    omega
theorem Nc {r:ah} {forum:Int} {f:ak} {day:Int} (hF:cb r f):(cm r forum f day).length≤67240:=by
  rw [zB]
  cases ht:(aF r forum f day).2 with
  | false=>simp
  | true =>
    rw [Bool.not_true,cond_false]
    have he:=(F9 r forum f day ht).1
    have hv:(aF r forum f day).1.view=aD f day:=by rw [he]
    have ho:=D1 f day
    have h40:=hF.2.1.1
    have hk:∀ part,(al (aD f day) part).length≤40:=fun part=>by
      have h:=(pB (aD f day) part).1
      rw [ho.1] at h
      omega
    unfold Cw
    rw [hv]
    refine Nat.le_trans (xD (m:=1640) _ fun part _=>Nat.le_trans (xD (m:=40) _ fun o _=>Nat.le_trans (xD (m:=1) _ fun s _=>?_) ?_) ?_) ?_
    · unfold qy
      cases (aQ (aF r forum f day).1 o s (al (aD f day) part) (aW r forum f day)).1 == 0||((aF r forum f day).1.view.now.af.getD s.toNat default).dQ == o.gC <;> simp
    · have h:=(tV (aD f day) part o.sign (al (aD f day) part)).1
      have h2:=oM f day
      rw [ho.2.1] at h
      omega
    · have h:=EG (aF r forum f day).1 (al (aD f day) part)
      have h2:=hk part
      omega
    · have h:=ho.2.2.2.2
      omega
/-- how many links lie from one signature to XI -/
def Bf (links:List Int) (lo hi:Int):Nat:=(links.filter fun l=>decide (l≤hi)&&decide (l≥lo)).length
def H0 (links:List Int) (hi:Int):Nat:=(links.filter fun l=>decide (l≤hi)).length
theorem Zw (links:List Int) (lo hi:Int) {i:Nat} (h:i < links.length):Bf (links.take (i+1)) lo hi=Bf (links.take i) lo hi+(bif decide (links.getD i default≤hi)&&decide (links.getD i default≥lo) then 1 else 0):=by
  unfold Bf
  rw [List.take_succ_eq_append_getElem h,List.filter_append,List.length_append,show links.getD i default=links[i] by simp [List.getD,h]]
  congr 1
  cases hc:decide (links[i]≤hi)&&decide (links[i]≥lo) with
  | true=>rw [List.filter_cons_of_pos (by simpa using hc)]; rfl
  | false=>rw [List.filter_cons_of_neg (by simpa using hc)]; rfl
theorem Zx (links:List Int) (hi:Int) {i:Nat} (h:i < links.length):H0 (links.take (i+1)) hi=H0 (links.take i) hi+(bif decide (links.getD i default≤hi) then 1 else 0):=by
  unfold H0
  rw [List.take_succ_eq_append_getElem h,List.filter_append,List.length_append,show links.getD i default=links[i] by simp [List.getD,h]]
  congr 1
  cases hc:decide (links[i]≤hi) with
  | true=>rw [List.filter_cons_of_pos (by simpa using hc)]; rfl
  | false=>rw [List.filter_cons_of_neg (by simpa using hc)]; rfl
theorem acM (links:List Int) (lo hi:Int):Bf links lo hi≤links.length:=List.length_filter_le ..
theorem acN (links:List Int) (hi:Int):H0 links hi≤links.length:=List.length_filter_le ..
def od (c:fy):Bool:=(c.due != (-1))&&decide (c.view.day≥c.due)
theorem Gs (c:fy) (o:lO) (sign:Int) (links:List Int) (eff:List cX) (hl:links.length≤1000000):aQ c o sign links eff =
    bif (c.view.now.af.getD (aC c.view sign).toNat default).kind == 1 then (bif !(od c) then (0,0) else (fO o.state (eff.getD sign.toNat default).binds,0)) else
    bif ((!(od c))&&(!(cR c.view.now.aw)))||(!((eff.getD (aC c.view sign).toNat default).fM)) then (0,0) else
    (fO (fO o.state (eff.getD sign.toNat default).binds) (jC c.r c.forum c.view.all (aC c.view sign) c.view.day).all,
      bif !(bZ links (aC c.view sign)) then (1+(H0 links o.sign:Int)) else (Bf links (aC c.view sign) o.sign:Int)):=by
  unfold aQ jD
  dsimp +instances only [Sk.dK,Sk.gd,Sk.iO,Sk.fB,Sk.js,Sk.l6,Sk.dn,ig.AY,kk,kp,bH.rB,bH.Zd,bH.IB,uB,sS,j0,aM,sU]
  have ags:∀ d:(Int × Int) ⊕ (Int × Int),iter (fun i5:Int × Int × Nat=>bif decide (((i5.2.2:Nat):Int) < ((links.length:Nat):Int)) then
      (iX (bif decide ((links.getD i5.2.2 default)≤o.sign) then (Sum.inr (ar (i5.2.1+1)):(((Int × Int) ⊕ (Int × Int)) ⊕ (Int × Int × Nat)) ⊕ Int) else Sum.inr i5.2.1) fun b6=>bif (decide ((links.getD i5.2.2 default)≤o.sign))&&(decide ((links.getD i5.2.2 default)≥aC c.view sign)) then Sum.inr (ar (i5.1+1),b6,i5.2.2+1) else Sum.inr (i5.1,b6,i5.2.2+1))
      else Sum.inl (Sum.inr (i5.1,i5.2.1))) d (links.length - 0+1) (0,1,0)=Sum.inr ((Bf links (aC c.view sign) o.sign:Int),1+(H0 links o.sign:Int)):=by
    intro d
    refine (Db links.length (fun n=>((Bf (links.take n) (aC c.view sign) o.sign:Int),1+(H0 (links.take n) o.sign:Int))) (fun s i=>(s.1,s.2,i)) (fun s=>Sum.inr s) (fun i hi=>?_) ?_ (m:=links.length - 0+1) (by omega)).trans ?_
    · dsimp only
      rw [decide_eq_true (by omega),cond_true,Zw links _ _ hi,Zx links _ hi]
      have h1:=acM (links.take i) (aC c.view sign) o.sign
      have h2:=acN (links.take i) o.sign
      have h3:(links.take i).length≤links.length:=by rw [List.length_take]; exact Nat.min_le_right _ _
      rw [aA (n:=(Bf (links.take i) (aC c.view sign) o.sign:Int)+1) (by omega) (by omega),aA (n:=1+(H0 (links.take i) o.sign:Int)+1) (by omega) (by omega)]
      cases decide (links.getD i default≤o.sign) with
      | false=>simp [iX]
      | true =>
        cases decide (links.getD i default≥aC c.view sign) with
        | false=>simp [iX]; omega
        | true=>simp [iX]; omega
    · dsimp only
      rw [decide_eq_false (by omega),cond_false]
    · rw [List.take_length]
  cases (c.view.now.af.getD (aC c.view sign).toNat default).kind == 1 with
  | true=>rfl
  | false =>
    simp only [cond_false]
    show (bif ((!(od c))&&(!(cR c.view.now.aw)))||(!((eff.getD (aC c.view sign).toNat default).fM)) then (0,0) else _)=_
    cases ((!(od c))&&(!(cR c.view.now.aw)))||(!((eff.getD (aC c.view sign).toNat default).fM)) with
    | true=>rfl
    | false =>
      simp only [cond_false]
      refine (congrArg (fun q=>iX q _) (ags _)).trans ?_
      show iX (bif !(bZ links (aC c.view sign)) then Sum.inr (1+(H0 links o.sign:Int)) else Sum.inr (Bf links (aC c.view sign) o.sign:Int)) _=_
      cases bZ links (aC c.view sign) <;> rfl
theorem Nd (a b:Int):fO a b=0∨fO a b=1∨fO a b=2:=by
  have e:fO a b=bif (a == 0)||(b == 0) then 0 else bif (a == 2)||(b == 2) then 2 else 1:=by kernel_rfl
  rw [e]
  cases (a == 0)||(b == 0) <;> cases (a == 2)||(b == 2) <;> simp
theorem Zy (c:fy) (o:lO) (sign:Int) (links:List Int) (eff:List cX) (hl:links.length≤1000000):(aQ c o sign links eff).1=0∨(aQ c o sign links eff).1=1∨(aQ c o sign links eff).1=2:=by
  rw [Gs c o sign links eff hl]
  cases (c.view.now.af.getD (aC c.view sign).toNat default).kind == 1 with
  | true =>
    cases od c with
    | false=>exact .inl rfl
    | true=>exact Nd _ _
  | false =>
    rw [cond_false]
    cases ((!(od c))&&(!(cR c.view.now.aw)))||(!((eff.getD (aC c.view sign).toNat default).fM)) with
    | true=>exact .inl rfl
    | false=>exact Nd _ _
theorem EM {r:ah} {forum:Int} {f:ak} {day:Int} (h:(aF r forum f day).2=true):(aF r forum f day).1=⟨aD f day,r,forum,bJ r forum f day⟩:=(F9 r forum f day h).1
theorem tY (f:ak) (day:Int):(aD f day).all=f:=by rw [Dd]
theorem jG (f:ak) (day:Int):(aD f day).now=ai f day:=by rw [Dd]
theorem Nf (f:ak) (day:Int):(aD f day).day=day:=by rw [Dd]
/-- where a kU comes from -/
structure aeI (r:ah) (forum:Int) (f:ak) (day:Int) (c:Claim) (part:Int) (o:lO) (sign:Int):Prop where
  lead:part∈(aD f day).lead
  own:o∈bK (aF r forum f day).1 (al (aD f day) part)
  li:sign∈bA (aD f day) part o.sign (al (aD f day) part)
  st:(aQ (aF r forum f day).1 o sign (al (aD f day) part) (aW r forum f day)).1≠0
  ne:((ai f day).af.getD sign.toNat default).dQ≠o.gC
  eq:c = { bL:=((ai f day).af.getD sign.toNat default).dQ,aH:=o.gC,part:=part,sign:=sign,c9:=o.sign,dF:=(aQ (aF r forum f day).1 o sign (al (aD f day) part) (aW r forum f day)).2,sum:=(im r forum f sign day).rest,au:=f.aU.au,state:=(aQ (aF r forum f day).1 o sign (al (aD f day) part) (aW r forum f day)).1 }
theorem xE {r:ah} {forum:Int} {f:ak} {day:Int} {c:Claim} (h:c∈cm r forum f day):((aF r forum f day).1=⟨aD f day,r,forum,bJ r forum f day⟩)∧∃ part o sign,aeI r forum f day c part o sign:=by
  rw [zB] at h
  cases ht:(aF r forum f day).2 with
  | false=>rw [ht] at h; cases h
  | true =>
    rw [ht,Bool.not_true,cond_false] at h
    have he:=EM ht
    refine ⟨he,?_⟩
    unfold Cw at h
    have hv:(aF r forum f day).1.view=aD f day:=by rw [he]
    rw [hv] at h
    obtain ⟨part,hp,h⟩:=List.mem_flatMap.1 h
    obtain ⟨o,ho,h⟩:=List.mem_flatMap.1 h
    obtain ⟨sign,hs,h⟩:=List.mem_flatMap.1 h
    unfold qy at h
    rw [hv,jG] at h
    cases hc:(aQ (aF r forum f day).1 o sign (al (aD f day) part) (aW r forum f day)).1 == 0||((ai f day).af.getD sign.toNat default).dQ == o.gC with
    | true=>rw [hc] at h; cases h
    | false =>
      rw [hc,cond_false,List.mem_singleton] at h
      simp only [Bool.or_eq_false_iff,beq_eq_false_iff_ne,ne_eq] at hc
      exact ⟨part,o,sign,hp,ho,hs,hc.1,hc.2,h⟩
theorem H2 {f:ak} {day part:Int}:(al (aD f day) part).length≤f.af.length:=by
  have:=(pB (aD f day) part).1
  rwa [tY] at this
theorem Cy {r:ah} {forum:Int} {f:ak} {day:Int} {c:Claim} (hF:cb r f) (hR:r.dg) (h:c∈cm r forum f day) :
    (0≤c.sign∧c.sign < f.af.length)∧(-1≤c.c9∧c.c9 < f.af.length)∧c.bL=(f.af.getD c.sign.toNat default).dQ∧c.aH=(if 0≤c.c9 then (f.af.getD c.c9.toNat default).cM else f.aU.gj) ∧
      c.bL≠c.aH∧(c.state=1∨c.state=2)∧l9 c.sum∧c.au=f.aU.au:=by
  obtain ⟨he,part,o,sign,k⟩:=xE h
  have hlen:=oM f day
  have hl:=EH k.li
  have hm:=tW hl.2
  rw [jG] at hm
  have hll:(al (aD f day) part).length≤1000000:=by have:=H2 (f:=f) (day:=day) (part:=part); have:=hF.2.1.1; omega
  have hs:=Zy (aF r forum f day).1 o sign (al (aD f day) part) (aW r forum f day) hll
  have lW:=k.st
  have ho:=(MS k.own).1
  have hvn:(aF r forum f day).1.view.now=ai f day:=by rw [he]; exact jG f day
  rw [hvn,Ur] at ho
  have hby:(o.sign = -1∧o.gC=f.aU.gj)∨(0≤o.sign∧o.sign < f.af.length∧o.gC=(f.af.getD o.sign.toNat default).cM):=by
    rcases ho with ho | ⟨h1,h2⟩
    · exact .inl ho
    · have hk:=HT h1
      rw [tY,Nf] at hk
      have VC:=hF.adB hk.1 hk.2.1 hk.2.2.2.2.1
      rw [zd f day _ (by omega)] at h2
      exact .inr ⟨hk.1,hk.2.1,h2⟩
  have GP:im r forum f sign day=im r forum f sign day:=rfl
  have aid:=zy r forum f sign day ⟨hF,hR⟩
  obtain rfl:=k.eq
  refine ⟨⟨hm.1,by have:=hm.2.1; show sign < _; omega⟩,?_,?_,?_,k.ne,?_,aid,rfl⟩
  · show -1≤o.sign∧o.sign < _
    rcases hby with hby | hby <;> omega
  · show ((ai f day).af.getD sign.toNat default).dQ=_
    rw [zd f day _ (by omega)]
  · show o.gC=if 0≤o.sign then (f.af.getD o.sign.toNat default).cM else f.aU.gj
    rcases hby with hby | hby
    · rw [if_neg (by omega)]; exact hby.2
    · rw [if_pos hby.1]; exact hby.2.2
  · show (aQ _ _ _ _ _).1=1∨_
    rcases hs with hs | hs | hs
    · exact absurd hs lW
    · exact .inl hs
    · exact .inr hs
theorem US (r:ah) (forum:Int) (f:ak) (day:Int):(cm r forum f day).Pairwise (fun a b=>¬ (a.part=b.part∧a.sign=b.sign∧a.c9=b.c9)):=by
  rw [zB]
  cases ht:(aF r forum f day).2 with
  | false=>exact List.Pairwise.nil
  | true =>
    rw [Bool.not_true,cond_false]
    have he:=EM ht
    have hv:(aF r forum f day).1.view=aD f day:=by rw [he]
    have key:∀ part o sign c,c∈qy r forum f day (aF r forum f day).1 (aW r forum f day) (al (aD f day) part) part o sign→c.part=part∧c.c9=o.sign∧c.sign=sign:=fun part o sign c h=>by
      unfold qy at h
      cases hc:(aQ (aF r forum f day).1 o sign (al (aD f day) part) (aW r forum f day)).1 == 0||((aF r forum f day).1.view.now.af.getD sign.toNat default).dQ == o.gC with
      | true=>rw [hc] at h; cases h
      | false=>rw [hc,cond_false,List.mem_singleton] at h; subst h; exact ⟨rfl,rfl,rfl⟩
    have acO:∀ part o c,c∈((bA (aD f day) part o.sign (al (aD f day) part)).flatMap fun sign=>qy r forum f day (aF r forum f day).1 (aW r forum f day) (al (aD f day) part) part o sign)→c.part=part∧c.c9=o.sign:=fun part o c h=>by
      obtain ⟨s,_,h⟩:=List.mem_flatMap.1 h
      exact ⟨(key _ _ _ _ h).1,(key _ _ _ _ h).2.1⟩
    unfold Cw
    rw [hv,List.pairwise_flatMap]
    refine ⟨fun part _=>?_,(UH f day).imp (fun {a b} hab x hx y hy h=>?_)⟩
    · rw [List.pairwise_flatMap]
      refine ⟨fun o _=>?_,(RZ (fun y hy=>(HT hy).1) (RY _ _)).imp (fun {a b} hab x hx y hy h=>?_)⟩
      · rw [List.pairwise_flatMap]
        refine ⟨fun s _=>?_,(Pa _ _ _ _).imp (fun {a b} hab x hx y hy h=>?_)⟩
        · unfold qy
          cases (aQ (aF r forum f day).1 o s (al (aD f day) part) (aW r forum f day)).1 == 0||((aF r forum f day).1.view.now.af.getD s.toNat default).dQ == o.gC <;> simp
        · have h1:=(key _ _ _ _ hx).2.2
          have h2:=(key _ _ _ _ hy).2.2
          omega
      · have h1:=(acO _ _ _ hx).2
        have h2:=(acO _ _ _ hy).2
        omega
    · obtain ⟨o,_,hx⟩:=List.mem_flatMap.1 hx
      obtain ⟨o',_,hy⟩:=List.mem_flatMap.1 hy
      have h1:=(acO _ _ _ hx).1
      have h2:=(acO _ _ _ hy).1
      omega
/-- an act VP is a KG -/
def Sb (g:ak) (a:bD):Prop:=a.kind=6∧0≤a.at_∧a.at_ < (g.af.length:Int)
def Yf (g:ak) (st:Bool) (cM:Int):Prop:=st=true↔∀ q,q < g.af.length→(g.af.getD q default).dQ≠cM
/-- I5 R5 after I5 first k aw -/
inductive yp (g:ak) (l0:List Claim):Nat→List Claim→Prop
  | zero:yp g l0 0 l0
  | skip {k:Nat} {l:List Claim}:yp g l0 k l→k < g.aw.length→¬ Sb g (g.aw.getD k default)→yp g l0 (k+1) l
  | AZ {k:Nat} {l out:List Claim} {st:Bool}:yp g l0 k l→k < g.aw.length→Sb g (g.aw.getD k default)→Yf g st (g.aw.getD k default).cM→AA l (g.aw.getD k default) st out→yp g l0 (k+1) out
theorem abB {x y:Claim} (h:Cu x y):UN x=UN y:=by simp only [UN,h.1.1,h.1.2.2.1,h.1.2.2.2.1]
theorem yp.UN {g:ak} {l0 l:List Claim} {k:Nat} (h:yp g l0 k l):∀ x∈l,UN x∈l0.map UN:=by
  induction h with
  | zero=>exact fun x hx=>List.mem_map.2 ⟨x,hx,rfl⟩
  | skip _ _ _ ih=>exact ih
  | @AZ k l out st h _ _ _ ha ih =>
    intro x hx
    obtain ⟨i,hi,rfl⟩:=List.getElem_of_mem hx
    have e:out[i]=out.getD i default:=by simp [List.getD,hi]
    rw [e]
    by_cases h1:i < l.length
    · rw [abB (ha.old i h1).1]
      exact ih _ (oa h1)
    · obtain ⟨-,-,-,x,hx,e1,e2,e3,-⟩:=ha.new i (by omega) hi
      have:=ih x hx
      rwa [show Go.Proofs.YtonkchddcgcopaaGreatDoor.UN (out.getD i default)=Go.Proofs.YtonkchddcgcopaaGreatDoor.UN x by simp only [Go.Proofs.YtonkchddcgcopaaGreatDoor.UN,e1,e2,e3]]
theorem yp.count {g:ak} {l0 l:List Claim} {k:Nat} (h:yp g l0 k l):l.length≤l0.length+k * l0.length∧k≤g.aw.length:=by
  induction h with
  | zero=>simp
  | skip _ _ _ ih=>exact ⟨by rw [Nat.succ_mul]; omega,by omega⟩
  | AZ h _ _ _ ha ih =>
    have:=ha.few _ h.UN
    rw [List.length_map] at this
    exact ⟨by rw [Nat.succ_mul]; omega,by omega⟩
theorem yp.Ro {g:ak} {l0 l:List Claim} {k:Nat} (h:yp g l0 k l) (h0:∀ x∈l0,Gn x):∀ x∈l,Gn x:=by
  induction h with
  | zero=>exact h0
  | skip _ _ _ ih=>exact ih
  | AZ _ _ _ _ ha ih=>exact ha.Ro ih
theorem Ng {g:ak} {x:Bool} {t:Int} {p:Sign→Bool} (hp:∀ s,p s=true↔s.dQ=t) (h:x=true↔∃ q,q < g.af.length∧p (g.af.getD q default)=true):Yf g (!x) t:=by
  constructor
  · intro hx q hq e
    have:=h.2 ⟨q,hq,(hp _).2 e⟩
    rw [this] at hx
    cases hx
  · intro hq
    cases hx:x with
    | false=>rfl
    | true =>
      obtain ⟨q,h1,h2⟩:=h.1 hx
      exact absurd ((hp _).1 h2) (hq q h1)
theorem Yg {g:ak} {a:bD} (h:((a.kind != 6)||decide (a.at_ < 0)||decide (a.at_≥((g.af.length:Nat):Int)))=true):¬ Sb g a:=by
  rintro ⟨h1,h2,h3⟩
  simp only [Bool.or_eq_true,bne_iff_ne,decide_eq_true_eq] at h
  rcases h with (h | h) | h
  · exact h h1
  · omega
  · omega
theorem WU {g:ak} {a:bD} (h:((a.kind != 6)||decide (a.at_ < 0)||decide (a.at_≥((g.af.length:Nat):Int)))=false):Sb g a:=by
  simp only [Bool.or_eq_false_iff,bne_eq_false_iff_eq,decide_eq_false_iff_not] at h
  exact ⟨h.1.1,by omega,by omega⟩
def qK (r:ah) (forum:Int) (f:ak) (day:Int):Sk ((List Claim) × Unit) :=
 .r 1 ((aV f day).c) fun x1 =>
 .r 2 ((yo 29 r forum f day).c) fun x2 =>
 .r 3 (.o [.aZ (sr dI)]) fun _ =>
 .cl 30 ([]:List (Int × Int)) <|
 .bind true (fun b3=>yp x1 x2 x1.aw.length b3)
 (.loop (default:Sum ((List Claim) × Unit) ((List Claim))) (fun i4=>i4.2≤x1.aw.length∧yp x1 x2 i4.2 i4.1) (fun i4=>x1.aw.length - i4.2) ((x2,0):(List Claim) × Nat)
 (fun (i4:(List Claim) × Nat)=>⟨[(11,ow 100006 i4.1),(34,iv ((i4.2:Nat):Int))],[(100006,bw 83 9 Claim.cells i4.1)]⟩) fun i4 =>
 .lt 32 0 i4.2 x1.aw.length
 (.bind true (fun b5=>yp x1 x2 (i4.2+1) b5)
 (.r 6 (.p (bU ((i4.2:Nat):Int) x1.aw.length)) fun _ =>
 .br (((((x1.aw.getD i4.2 default).kind) != 6)||(decide (((x1.aw.getD i4.2 default).at_) < 0)))||(decide (((x1.aw.getD i4.2 default).at_)≥((x1.af.length:Nat):Int))))
 (.fin (.inr i4.1))
 (.r 8 ((hZ x1.af (x1.aw.getD i4.2 default)).c) fun x6 =>
 .fz 100006 <|
 .r 9 (.aj (.p (bU ((x1.aw.getD i4.2 default).at_) x1.af.length)) ((vi 70 i4.1 (x1.aw.getD i4.2 default) ((x1.af.getD (((x1.aw.getD i4.2 default).at_).toNat) default).kind) (!x6)).c)) fun x7 =>
 .r 10 (.o [.aZ (sr dB)]) fun _ =>
 .bt
 (.loop (default:Sum (Sum (Sum (Sum ((List Claim) × Unit) ((List Claim))) ((List Claim) × Nat)) ((List Claim))) (Int × (List (Int × Bool)))) (fun i9=>i9.1≤x7.2.length) (fun i9=>x7.2.length - i9.1) ((0,([]:List (Int × Bool))):Nat × (List (Int × Bool)))
 (fun (i9:Nat × (List (Int × Bool)))=>⟨[(76,iv ((i9.1:Nat):Int))],[(73,SK dB i9.2)]⟩) fun i9 =>
 .lt 17 0 i9.1 x7.2.length
 (.r 13 (.p (bU ((i9.1:Nat):Int) x7.2.length)) fun _ =>
 .r 14 (.aj (.t (pq dB i9.2)) (.o [.aZ (Wp dB i9.2 ((x7.2.getD i9.1 default).aH) true)])) fun _ =>
 .r 15 .z fun _ =>
 .wi 76 (ar (((i9.1:Nat):Int)+1)) ((i9.1+1:Nat):Int) <|
 .fin (.inr (i9.1+1,nB i9.2 ((x7.2.getD i9.1 default).aH) true)))
 (.fin (.inl (.inr (((i9.1:Nat):Int),i9.2)))))
 (fun (b8:Int × (List (Int × Bool)))=>⟨[(76,iv b8.1)],[(73,SK dB b8.2)]⟩) fun b8 =>
 .bt
 (.mr b8.2.length (fun _=>True) (():Unit)
 (fun g11 s13=>⟨[],[(85,.it 73 b8.2.length s13)]⟩)
 (fun g15=>⟨[],[]⟩)
 (fun g11 i12 =>
 .KC <|
 .r 18 (.p (i12 < b8.2.length)) fun _ =>
 .op 30 fun m14 =>
 .r 19 (.aj (.aj (.t (pq dI m14)) (.o [.cast 94 (getM dI m14 ((b8.2.getD i12 default).1) (0:Int))])) (.aj (.t (pq dI m14)) (.o [.aZ (Wp dI m14 ((b8.2.getD i12 default).1) (cq 1099511627776 (ar ((cT m14 ((b8.2.getD i12 default).1) (0:Int))+((x1.aw.getD i4.2 default).sum)))))]))) fun _ =>
 .cl 30 (nB m14 ((b8.2.getD i12 default).1) (cq 1099511627776 (ar ((cT m14 ((b8.2.getD i12 default).1) (0:Int))+((x1.aw.getD i4.2 default).sum))))) <|
 .fin ()) fun g15 =>
 .Dw <|
 .fin (.inr ()))
 (fun (_:Unit)=>⟨[(85,.any)],[]⟩) fun _ =>
 .fin (.inr x7.1)))
 (fun (b5:(List Claim))=>⟨[(11,ow 100008 b5)],[(100008,bw 83 9 Claim.cells b5)]⟩) fun b5 =>
 .nx 21 34 i4.2 (b5,i4.2+1))
 (.fin (.inl (.inr i4.1))))
 (fun (b3:(List Claim))=>⟨[(11,ow 100004 b3)],[(100004,bw 83 9 Claim.cells b3)]⟩) fun b3 =>
 .fin (b3,())
def Dj r forum f day:=(qK r forum f day).val
theorem UT (r:ah) (forum:Int) (f:ak) (day:Int):(qK r forum f day).dj (fun (x:(List Claim) × Unit)=>yp (ai f day) (cm r forum f day) (ai f day).aw.length x.1):=by
  refine Sk.bz _ ?_
  unfold qK
  simp only [Sk.de,Sk.aI,reduceCtorEq,ON,kk,kp,yo,vi,aV,hZ,maxLen]
  intro x hx _ x1 KA _
  refine ⟨⟨⟨Nat.zero_le _,.zero⟩,fun i hi=>⟨fun hc=>⟨fun _=>⟨fun hs=>?_,fun hs x4 _ h4 x5 _ h5 _=>⟨⟨Nat.zero_le _,fun j hj I9 _ _ _=>?_⟩,fun b b1 _=>?_⟩⟩,fun b _ hb _=>?_⟩,fun hc=>?_⟩⟩,fun b hb=>?_⟩
  all_goals try simp only [LN] at hc
  · exact hi.2.skip (by omega) (Yg hs)
  · simp only [LN] at I9
    omega
  · exact hi.2.AZ (by omega) (WU hs) (Ng (p:=fun s=>iE s (x.aw.getD i.2 default)) (fun s=>by show iE s _=true↔_; rw [tA,beq_iff_eq]) h4) h5
  · exact ⟨⟨by omega,hb⟩,by omega⟩
  · have e:i.2=x.aw.length:=by omega
    rw [← e]
    exact hi.2
  · subst hx KA
    exact hb

theorem Sc (r:ah) (forum:Int) (f:ak) (day:Int):(fun (x:(List Claim) × Unit)=>yp (ai f day) (cm r forum f day) (ai f day).aw.length x.1) (Dj r forum f day):=have h:=Sk.dk _ (UT r forum f day); h
theorem WV (r:ah) (forum:Int) (f:ak) (day:Int) (hF:cb r f) (bj:f.Small) (bR:r.cj) (aX:r.Small) (gX:r.il) (gv:r.dg):(qK r forum f day).bC (fun _=>True):=by
  refine Sk.aR _ ?_
  unfold qK
  simp only [Sk.jt,Sk.aI,reduceCtorEq,ON,kk,kp,Sk.dj,yo,vi,aV,hZ,maxLen]
  refine ⟨bj,fun x hx hl=>⟨⟨hF,bj,bR,aX,gX,gv⟩,fun x1 KA _=>⟨⟨Nat.zero_le _,.zero⟩,fun i hi hmx=>⟨fun hc=>⟨⟨?_,fun _=>⟨fun hs=>?_,fun hs x4 _ h4=>⟨⟨?_,?_⟩,fun x5 _ h5 _=>⟨⟨Nat.zero_le _,fun j hj hm2 I9=>?_⟩,fun b=>⟨fun _ _ h=>h,fun b1 _=>?_⟩⟩⟩⟩⟩,fun b _ hb _=>?_⟩,fun hc=>?_⟩⟩⟩⟩
  all_goals try simp only [LN] at hc
  · exact ⟨by omega,by omega⟩
  · exact hi.2.skip (by omega) (Yg hs)
  · exact (WU hs).2
  · have h1:=hi.2.count.1
    have h2:x1.length≤67240:=by rw [KA]; exact Nc hF
    have h3:=hF.2.1.2.2.2.1
    have h4:=Nat.mul_le_mul (show i.2≤100 by omega) h2
    omega
  · simp only [LN] at I9
    exact ⟨⟨by omega,by omega⟩,fun _ _ _=>⟨(aA (by omega) (by omega)).trans (by omega),by omega,by omega⟩⟩
  · exact hi.2.AZ (by omega) (WU hs) (Ng (p:=fun s=>iE s (x.aw.getD i.2 default)) (fun s=>by show iE s _=true↔_; rw [tA,beq_iff_eq]) h4) h5
  · exact ⟨(aA (by omega) (by omega)).trans (by omega),⟨by omega,hb⟩,by omega⟩
  · have e:i.2=x.aw.length:=by omega
    rw [← e]
    exact hi.2

theorem UU (r:ah) (forum:Int) (f:ak) (day:Int) (hF:cb r f) (bj:f.Small) (bR:r.cj) (aX:r.Small) (gX:r.il) (gv:r.dg):gQ Tryz.prog 64 [av r.cells,iv forum,av f.cells,iv day] [] (.fD [ow 777777 (Dj r forum f day).1,.any]) [(777777,bw 83 9 Claim.cells (Dj r forum f day).1)] :=
  gQ.sk tok mixed (fun x=>.fD [ow 777777 x.1,.any]) (fun x=>[(777777,bw 83 9 Claim.cells x.1)]) Tryz.func64 rfl (by kernel_rfl) 3000 (qK r forum f day) (by kernel_rfl) (WV r forum f day hF bj bR aX gX gv)
def EN (κ:Nat) (r:ah) (forum:Int) (f:ak) (day:Int):jZ ((List Claim) × Unit):=⟨Tryz.prog,64,[av r.cells,iv forum,av f.cells,iv day],fun x=>.fD [ow κ x.1,.any],fun x=>[(κ,bw 83 9 Claim.cells x.1)],Dj r forum f day,(cb r f)∧(f.Small)∧(r.cj)∧(r.Small)∧(r.il)∧(r.dg),fun h=>gQ.aaZ κ rfl (UU r forum f day h.1 h.2.1 h.2.2.1 h.2.2.2.1 h.2.2.2.2.1 h.2.2.2.2.2),fun (x:(List Claim) × Unit)=>yp (ai f day) (cm r forum f day) (ai f day).aw.length x.1,Sc r forum f day⟩
def mV (r:ah) (forum:Int) (f:ak) (day:Int):Sk ((List Claim)) :=
 .r 1 ((EN 16 r forum f day).c) fun x1 =>
 .fin x1.1
def eQ r forum f day:=(mV r forum f day).val
theorem Nh (r:ah) (forum:Int) (f:ak) (day:Int):(mV r forum f day).dj (fun (x:(List Claim))=>yp (ai f day) (cm r forum f day) (ai f day).aw.length x):=by
  unfold mV
  try simp only [EN]
  exact Fw

theorem A6 (r:ah) (forum:Int) (f:ak) (day:Int):(fun (x:(List Claim))=>yp (ai f day) (cm r forum f day) (ai f day).aw.length x) (eQ r forum f day):=have h:=Sk.dk _ (Nh r forum f day); h
theorem Po (r:ah) (forum:Int) (f:ak) (day:Int) (hF:cb r f) (bj:f.Small) (bR:r.cj) (aX:r.Small) (gX:r.il) (gv:r.dg):(mV r forum f day).bC (fun _=>True):=by
  unfold mV
  try simp only [EN]
  exact mz

theorem Ni (r:ah) (forum:Int) (f:ak) (day:Int) (hF:cb r f) (bj:f.Small) (bR:r.cj) (aX:r.Small) (gX:r.il) (gv:r.dg):gQ Tryz.prog 38 [av r.cells,iv forum,av f.cells,iv day] [] (ow 777777 (eQ r forum f day)) [(777777,bw 83 9 Claim.cells (eQ r forum f day))] :=
  gQ.sk tok mixed (fun x=>ow 777777 x) (fun x=>[(777777,bw 83 9 Claim.cells x)]) Tryz.func38 rfl (by kernel_rfl) 3000 (mV r forum f day) (by kernel_rfl) (Po r forum f day hF bj bR aX gX gv)
def yq (κ:Nat) (r:ah) (forum:Int) (f:ak) (day:Int):jZ ((List Claim)):=⟨Tryz.prog,38,[av r.cells,iv forum,av f.cells,iv day],fun x=>ow κ x,fun x=>[(κ,bw 83 9 Claim.cells x)],eQ r forum f day,(cb r f)∧(f.Small)∧(r.cj)∧(r.Small)∧(r.il)∧(r.dg),fun h=>gQ.XX κ (Ni r forum f day h.1 h.2.1 h.2.2.1 h.2.2.2.1 h.2.2.2.2.1 h.2.2.2.2.2),fun (x:(List Claim))=>yp (ai f day) (cm r forum f day) (ai f day).aw.length x,A6 r forum f day⟩
def iV (r:ah) (forum:Int) (f:ak) (day:Int):Sk (Int) :=
 .r 1 (.dep ((lP r forum f 0 day).c) fun x1=>(cu x1).c) fun p3 =>
 .fin p3.2
def iM r forum f day:=(iV r forum f day).val
theorem AB (r:ah) (forum:Int) (f:ak) (day:Int) (bj:f.Small) (bR:r.cj) (aX:r.Small):(iV r forum f day).bC (fun _=>True):=by
  simp only [ak.Small,ah.Small,ah.cj] at bj
  simp only [ak.Small,ah.Small,ah.cj] at bR
  simp only [ak.Small,ah.Small,ah.cj] at aX
  unfold iV
  try simp only [lP,cu,ak.Small,ah.Small,ah.cj]
  exact mz

def m6 r forum f day:=kk tok mixed Tryz.func127 [av r.cells,iv forum,av f.cells,iv day] (fun x=>iv x) true (iV r forum f day) (iM r forum f day) (u3 (AB r forum f day))
def oe (r:ah) (forum:Int) (f:ak) (c_:Claim) (day:Int):Sk (Int × Int) :=
 .br (c_.dF == 0)
 (.r 2 ((bW r forum f day).c) fun x1 =>
 .fin (13,x1))
 (.bt
 (.loop (default:Sum (Int × Int) (Unit)) (fun i3=>i3≤f.aw.length) (fun i3=>f.aw.length - i3) (0:Nat)
 (fun (i3:Nat)=>⟨[(25,iv ((i3:Nat):Int))],[]⟩) fun i3 =>
 .lt 23 0 i3 f.aw.length
 (.r 5 (.p (bU ((i3:Nat):Int) f.aw.length)) fun _ =>
 .br (((((f.aw.getD i3 default).kind) == 6)&&(((f.aw.getD i3 default).dQ) == c_.aH))&&(((f.aw.getD i3 default).at_) == c_.c9))
 (.fin (.inl (.inl (15,(f.aw.getD i3 default).day))))
 (.nx 8 25 i3 (i3+1)))
 (.fin (.inl (.inr ()))))
 (fun (_:Unit)=>⟨[],[]⟩) fun _ =>
 .r 9 ((m6 r forum f day).c) fun x4 =>
 .fin (14,x4))
def eS r forum f c_ day:=(oe r forum f c_ day).val
theorem Nj (r:ah) (forum:Int) (f:ak) (c_:Claim) (day:Int) (bj:f.Small) (bR:r.cj) (aX:r.Small):(oe r forum f c_ day).bC (fun _=>True):=by
  simp only [ak.Small,ah.Small,ah.cj] at bj
  simp only [ak.Small,ah.Small,ah.cj] at bR
  simp only [ak.Small,ah.Small,ah.cj] at aX
  unfold oe
  try simp only [bW,m6,ak.Small,ah.Small,ah.cj]
  exact mz

def yt r forum f c_ day:=kk tok mixed Tryz.func96 [av r.cells,iv forum,av f.cells,av c_.cells,iv day] (fun x=>.fD [iv x.1,iv x.2]) true (oe r forum f c_ day) (eS r forum f c_ day) (u3 (Nj r forum f c_ day))
def lf (a:bD) (c_:Claim):Sk (Bool) :=
 .br (a.at_ != c_.sign)
 (.fin false)
 (.fin ((a.kind == 9)||((a.kind == 8)&&((c_.aH == (-1))||(a.dQ == c_.aH)))))
def jo a c_:=(lf a c_).val
theorem DQ (a:bD) (c_:Claim):(lf a c_).bC (fun _=>True):=by
  unfold lf
  exact qS

def qL a c_:=kk tok mixed Tryz.func97 [av a.cells,av c_.cells] (fun x=>bv x) true (lf a c_) (jo a c_) (u0 (DQ a c_))
end
end Go.Proofs.YtonkchddcgcopaaGreatDoor
