/- Functions, as sketches. -/
import Derived.Test.YtgmnlkccjlnnbaaGreatDoorLg
set_option linter.unusedSimpArgs false
set_option linter.unusedVariables false
set_option maxHeartbeats 1000000
set_option maxRecDepth 100000
namespace Go.Proofs.YtgmnlkccjlnnbaaGreatDoor
noncomputable section
open Go Go.Av
/-- half a Qk: Oh ada in two aaX,Oh first one Z0; a digit follows -/
def HY (y1 y0 u d:Int):Prop:=(2147483648≤y1∧y1 < 4294967296)∧(0≤y0∧y0 < 4294967296)∧(0≤u∧u < y1 * 4294967296+y0)∧0≤d∧d < 4294967296
/-- a quotient VE may be too Z0 -/
def HI (y1 y0 u d q r:Int):Prop:=(0≤q∧q < 18446744073709551616)∧q * y1+r=u∧(0≤r∧r < 4294967296)∧u * 4294967296+d < 4294967296 * (q * y1)+4294967296 * y1+q * y0+y0
/-- Oh quotient -/
def HQ (y1 y0 u d q:Int):Prop:=(0≤q∧q < 4294967296)∧4294967296 * (q * y1)+q * y0≤u * 4294967296+d∧u * 4294967296+d < 4294967296 * (q * y1)+4294967296 * y1+q * y0+y0
theorem Ah {y1 y0 u d:Int} (h:HY y1 y0 u d):HI y1 y0 u d (IntKind.u64.wrap (u.tdiv y1)) (IntKind.u64.wrap (u - IntKind.u64.wrap (IntKind.u64.wrap (u.tdiv y1) * y1))):=by
  obtain ⟨h1,h2,h3,h4⟩:=h
  have e:u.tdiv y1=u / y1:=Int.tdiv_eq_ediv_of_nonneg h3.1
  have q0:0≤u / y1:=Int.ediv_nonneg h3.1 (by omega)
  have q1:u / y1≤u:=Int.ediv_le_self _ h3.1
  have m1:=Int.mul_ediv_add_emod u y1
  have m2:=Int.emod_nonneg u (b:=y1) (by omega)
  have m3:=Int.emod_lt_of_pos u (b:=y1) (by omega)
  rw [e,dA q0 (by omega)]
  rw [Int.mul_comm y1] at m1
  rw [dA (n:=u / y1 * y1) (Int.mul_nonneg q0 (by omega)) (by omega),dA (by omega) (by omega)]
  have:=Int.mul_nonneg q0 h2.1
  refine ⟨⟨q0,by omega⟩,by omega,⟨by omega,by omega⟩,by omega⟩
theorem LG {y1 y0 u d q r:Int} (h:HY y1 y0 u d) (hi:HI y1 y0 u d q r):(decide (q≥4294967296)||decide (IntKind.u64.wrap (q * y0) > IntKind.u64.wrap (IntKind.u64.wrap (4294967296 * r)+d)))=decide (q≥4294967296∨q * y0 > 4294967296 * r+d):=by
  obtain ⟨h1,h2,h3,h4⟩:=h
  obtain ⟨i1,i2,i3,i4⟩:=hi
  rw [dA (n:=4294967296 * r) (by omega) (by omega),dA (n:=4294967296 * r+d) (by omega) (by omega)]
  by_cases c:q≥4294967296
  · simp [c]
  · have a:q * y0≤4294967295 * y0:=Int.mul_le_mul_of_nonneg_right (by omega) h2.1
    rw [dA (n:=q * y0) (Int.mul_nonneg i1.1 h2.1) (by omega)]
    simp [c]
theorem Ai {y1 y0 u d q r:Int} (h:HY y1 y0 u d) (hi:HI y1 y0 u d q r) (hc:(decide (q≥4294967296)||decide (IntKind.u64.wrap (q * y0) > IntKind.u64.wrap (IntKind.u64.wrap (4294967296 * r)+d)))=true) :
    (IntKind.u64.wrap (q - 1)).toNat < q.toNat∧(IntKind.u64.wrap (r+y1)≥4294967296→HQ y1 y0 u d (IntKind.u64.wrap (q - 1)))∧(IntKind.u64.wrap (r+y1) < 4294967296→HI y1 y0 u d (IntKind.u64.wrap (q - 1)) (IntKind.u64.wrap (r+y1))):=by
  rw [LG h hi,decide_eq_true_eq] at hc
  obtain ⟨h1,h2,h3,h4⟩:=h
  obtain ⟨i1,i2,i3,i4⟩:=hi
  have hy:u * 4294967296+d < 4294967296 * (q * y1)+q * y0:=by
    rcases hc with c | c
    · have a:4294967296 * y1≤q * y1:=Int.mul_le_mul_of_nonneg_right c (by omega)
      have b:4294967296 * y0≤q * y0:=Int.mul_le_mul_of_nonneg_right c h2.1
      omega
    · omega
  have hq:1≤q:=by
    rcases Int.lt_or_le q 1 with c | c
    · obtain rfl:q=0:=by omega
      simp only [Int.zero_mul] at hy i2
      omega
    · exact c
  have e1:(q - 1) * y1=q * y1 - y1:=by rw [Int.sub_mul,Int.one_mul]
  have e0:(q - 1) * y0=q * y0 - y0:=by rw [Int.sub_mul,Int.one_mul]
  rw [dA (n:=q - 1) (by omega) (by omega),dA (n:=r+y1) (by omega) (by omega)]
  refine ⟨by omega,fun hr=>?_,fun hr=>?_⟩
  · have hB:q - 1 < 4294967296:=by
      rcases Int.lt_or_le (q - 1) 4294967296 with c | c
      · exact c
      · have a:4294967296 * y1≤(q - 1) * y1:=Int.mul_le_mul_of_nonneg_right c (by omega)
        omega
    have a:(q - 1) * y0≤4294967295 * y0:=Int.mul_le_mul_of_nonneg_right (by omega) h2.1
    refine ⟨⟨by omega,hB⟩,?_,?_⟩
    · rw [e1]; omega
    · rw [e1,e0]; omega
  · refine ⟨⟨by omega,by omega⟩,by rw [e1]; omega,⟨by omega,hr⟩,by rw [e1,e0]; omega⟩
theorem Aj {y1 y0 u d q r:Int} (h:HY y1 y0 u d) (hi:HI y1 y0 u d q r) (hc:(decide (q≥4294967296)||decide (IntKind.u64.wrap (q * y0) > IntKind.u64.wrap (IntKind.u64.wrap (4294967296 * r)+d)))=false):HQ y1 y0 u d q:=by
  rw [LG h hi,decide_eq_false_iff_not] at hc
  obtain ⟨i1,i2,i3,i4⟩:=hi
  exact ⟨by omega,by omega,i4⟩
/-- Z6 is left -/
theorem wC {y1 y0 u d q:Int} (h:HY y1 y0 u d) (hq:HQ y1 y0 u d q):IntKind.u64.wrap (IntKind.u64.wrap (IntKind.u64.wrap (u * 4294967296)+d) - IntKind.u64.wrap (q * (y1 * 4294967296+y0)))=u * 4294967296+d - q * (y1 * 4294967296+y0)∧0≤u * 4294967296+d - q * (y1 * 4294967296+y0)∧u * 4294967296+d - q * (y1 * 4294967296+y0) < y1 * 4294967296+y0:=by
  obtain ⟨h1,h2,h3,h4⟩:=h
  obtain ⟨i1,i2,i3⟩:=hq
  have e:q * (y1 * 4294967296+y0)=4294967296 * (q * y1)+q * y0:=by rw [Int.mul_add,← Int.mul_assoc,Int.mul_comm (q * y1)]
  refine ⟨?_,by omega,by omega⟩
  simp only [HL]
  omega
theorem aaY {k:Nat} {q b:Int} (hq:0≤q) (hb:0≤b) (wK:b < 2 ^ k) (ha:q * 2 ^ k+b < 18446744073709551616):RQ .u64 (q * 2 ^ k) b=q * 2 ^ k+b:=by
  obtain ⟨q,rfl⟩:=Int.eq_ofNat_of_zero_le hq
  obtain ⟨b,rfl⟩:=Int.eq_ofNat_of_zero_le hb
  have e:((q:Int) * 2 ^ k)=((q * 2 ^ k:Nat):Int):=by simp
  have JO:b < 2 ^ k:=by
    have e2:((2:Int) ^ k)=((2 ^ k:Nat):Int):=by simp
    rw [e2] at wK
    exact_mod_cast wK
  rw [e] at ha ⊢
  unfold RQ
  have eC:q * 2 ^ k+b < 18446744073709551616:=by omega
  have h1:(BitVec.ofInt IntKind.u64.bits ((q * 2 ^ k:Nat):Int) ||| BitVec.ofInt IntKind.u64.bits ((b:Nat):Int)).toNat=q * 2 ^ k+b:=by
    rw [BitVec.toNat_or,BitVec.ofInt_natCast,BitVec.ofInt_natCast,BitVec.toNat_ofNat,BitVec.toNat_ofNat]
    have hb:IntKind.u64.bits=64:=rfl
    rw [hb,Nat.mod_eq_of_lt (by omega),Nat.mod_eq_of_lt (by omega),← Nat.shiftLeft_eq,← Nat.shiftLeft_add_eq_or_of_lt JO,Nat.shiftLeft_eq]
  rw [h1,dA (by omega) (by omega)]
  omega
theorem GM {a:Int} (h0:0≤a) (h1:a < 18446744073709551616):dP .u64 a 4294967295=a % 4294967296:=by
  obtain ⟨a,rfl⟩:=Int.eq_ofNat_of_zero_le h0
  unfold dP
  have h2:(BitVec.ofInt IntKind.u64.bits ((a:Nat):Int) &&& BitVec.ofInt IntKind.u64.bits 4294967295).toNat=a % 4294967296:=by
    have e:(4294967295:Int)=((4294967295:Nat):Int):=rfl
    rw [e,BitVec.toNat_and,BitVec.ofInt_natCast,BitVec.ofInt_natCast,BitVec.toNat_ofNat,BitVec.toNat_ofNat]
    have hb:IntKind.u64.bits=64:=rfl
    rw [hb,Nat.mod_eq_of_lt (by omega),Nat.mod_eq_of_lt (by omega)]
    exact Nat.and_two_pow_sub_one_eq_mod a 32
  rw [h2,dA (by omega) (by omega)]
  omega
/-- Oh parts of a Qk,made Z0 -/
theorem LH {hi lo y s:Int} (hy:0≤hi∧hi < y∧y < 18446744073709551616∧0≤lo∧lo < 18446744073709551616) (hs:0≤s∧s≤63∧9223372036854775808≤y * 2 ^ s.toNat∧y * 2 ^ s.toNat < 18446744073709551616) :
    ∃ U L:Int,RQ .u64 (eW .u64 hi (IntKind.u64.wrap s)) (dz .u64 lo (IntKind.u64.wrap ((64:Int) - IntKind.u64.wrap s)))=U∧eW .u64 lo (IntKind.u64.wrap s)=L∧eW .u64 y (IntKind.u64.wrap s)=y * 2 ^ s.toNat ∧
      (0≤L∧L < 18446744073709551616)∧(0≤U∧U < y * 2 ^ s.toNat)∧(hi * 18446744073709551616+lo) * 2 ^ s.toNat=U * 18446744073709551616+L:=by
  obtain ⟨h1,h2,h3,h4,h5⟩:=hy
  obtain ⟨s1,s2,s3,s4⟩:=hs
  have ew:IntKind.u64.wrap s=s:=dA s1 (by omega)
  have ew2:IntKind.u64.wrap (64 - s)=64 - s:=dA (by omega) (by omega)
  rw [ew,ew2,RR (by omega),RR (by omega),RR (by omega),DZ .u64 (b:=64 - s) (by show 0≤64 - s∧64 - s≤64; omega)]
  generalize hp:(2:Int) ^ s.toNat=p at *
  have hP:(18446744073709551616:Int)=2 ^ (64 - s).toNat * p:=by rw [← hp,← Int.pow_add,show (64 - s).toNat+s.toNat=64 by omega]; rfl
  generalize hq:(2:Int) ^ (64 - s).toNat=P at *
  have p0:0 < p:=by rw [← hp]; exact Int.pow_pos (by omega)
  have P0:0 < P:=by rw [← hq]; exact Int.pow_pos (by omega)
  have hip:hi * p≤(y - 1) * p:=Int.mul_le_mul_of_nonneg_right (by omega) (by omega)
  have aes:0≤hi * p:=Int.mul_nonneg h1 (by omega)
  have e1:(y - 1) * p=y * p - p:=by rw [Int.sub_mul,Int.one_mul]
  have b0:0≤lo / P:=Int.ediv_nonneg h4 (by omega)
  have b1:lo / P < p:=by
    rw [Int.ediv_lt_iff_lt_mul P0,Int.mul_comm]
    omega
  have eh:hi * p % 18446744073709551616=hi * p:=Int.emod_eq_of_lt aes (by omega)
  have ey:y * p % 18446744073709551616=y * p:=Int.emod_eq_of_lt (by omega) s4
  have el:lo * p / 18446744073709551616=lo / P:=by rw [hP]; exact Int.mul_ediv_mul_of_pos_left _ _ p0
  have hor:RQ .u64 (hi * p) (lo / P)=hi * p+lo / P:=by
    rw [← hp]
    exact aaY h1 b0 (by rw [hp]; exact b1) (by rw [hp]; omega)
  refine ⟨hi * p+lo / P,lo * p % 18446744073709551616,by rw [eh]; exact hor,rfl,ey,⟨by omega,by omega⟩,⟨by omega,by omega⟩,?_⟩
  have m:=Int.mul_ediv_add_emod (lo * p) 18446744073709551616
  rw [el] at m
  have e2:(hi * 18446744073709551616+lo) * p=hi * p * 18446744073709551616+lo * p:=by rw [Int.add_mul,Int.mul_right_comm]
  rw [e2]
  omega
/-- Oh whole Qk out of its aaX -/
theorem U5 {N y p U L q1 q0:Int} (hy:0 < y) (hp:0 < p) (hY:9223372036854775808≤y * p∧y * p < 18446744073709551616) (hL:0≤L∧L < 18446744073709551616) (hU:0≤U∧U < y * p) (hN:N * p=U * 18446744073709551616+L)
    (h1:HQ (y * p / 4294967296) (y * p % 4294967296) U (L / 4294967296) q1)
    (h0:HQ (y * p / 4294967296) (y * p % 4294967296) (U * 4294967296+L / 4294967296 - q1 * (y * p)) (L % 4294967296) q0) :
    IntKind.u64.wrap (IntKind.u64.wrap (q1 * 4294967296)+q0)=N / y ∧
      ((U * 4294967296+L / 4294967296 - q1 * (y * p)) * 4294967296+L % 4294967296 - q0 * (y * p)) / p=N % y:=by
  have eY:y * p / 4294967296 * 4294967296+y * p % 4294967296=y * p:=by omega
  have TH:HY (y * p / 4294967296) (y * p % 4294967296) U (L / 4294967296):=⟨⟨by omega,by omega⟩,⟨by omega,by omega⟩,⟨by omega,by omega⟩,by omega,by omega⟩
  have r1:=wC TH h1
  rw [eY] at r1
  have Rj:HY (y * p / 4294967296) (y * p % 4294967296) (U * 4294967296+L / 4294967296 - q1 * (y * p)) (L % 4294967296):=⟨⟨by omega,by omega⟩,⟨by omega,by omega⟩,⟨by omega,by omega⟩,by omega,by omega⟩
  have r0:=wC Rj h0
  rw [eY] at r0
  have i1:=h1.1
  have i0:=h0.1
  rw [dA (n:=q1 * 4294967296) (by omega) (by omega),dA (by omega) (by omega)]
  generalize hR:(U * 4294967296+L / 4294967296 - q1 * (y * p)) * 4294967296+L % 4294967296 - q0 * (y * p)=R at *
  have e:(q1 * 4294967296+q0) * (y * p)=q1 * (y * p) * 4294967296+q0 * (y * p):=by rw [Int.add_mul,Int.mul_right_comm]
  have hq:N * p=(q1 * 4294967296+q0) * (y * p)+R:=by rw [e]; omega
  have hR2:R=(N - (q1 * 4294967296+q0) * y) * p:=by rw [Int.sub_mul,Int.mul_assoc]; omega
  have JZ:0≤N - (q1 * 4294967296+q0) * y:=by
    rcases Int.lt_or_le (N - (q1 * 4294967296+q0) * y) 0 with c | c
    · have:=Int.mul_neg_of_neg_of_pos c hp
      omega
    · exact c
  have eC:N - (q1 * 4294967296+q0) * y < y:=by
    rcases Int.lt_or_le (N - (q1 * 4294967296+q0) * y) y with c | c
    · exact c
    · have:=Int.mul_le_mul_of_nonneg_right c (Int.le_of_lt hp)
      omega
  have hd:N / y=q1 * 4294967296+q0:=by
    rw [Int.ediv_eq_iff_of_pos hy]
    constructor
    · omega
    · omega
  refine ⟨hd.symm,?_⟩
  rw [hR2,Int.mul_ediv_cancel _ (by omega),Int.emod_def,hd,Int.mul_comm y]
def k6 (hi:Int) (lo:Int) (y:Int):Sk (Int × Int) :=
 .bind false (fun _=>True)
 (.br (y == 0)
 (.dead default)
 (.fin (.inr ())))
 (fun (_:Unit)=>⟨[],[]⟩) fun _ =>
 .bind false (fun _=>True)
 (.br (decide (y≤hi))
 (.dead default)
 (.fin (.inr ())))
 (fun (_:Unit)=>⟨[],[]⟩) fun _ =>
 .br (hi == 0)
 (.r 6 (.aq (.p (y≠0)) (.p (y≠0))) fun _ =>
 .fin (IntKind.u64.wrap (lo.tdiv y),lo.tmod y))
 (.r 7 ((lh y).c) fun x3 =>
 .r 8 (.p (0≤(IntKind.u64.wrap (x3)))) fun _ =>
 .r 9 (.p (0≤(32:Int))) fun _ =>
 .r 11 (.aq (.p (0≤(IntKind.u64.wrap (x3)))) (.p (0≤(IntKind.u64.wrap ((64:Int) - (IntKind.u64.wrap (x3))))))) fun _ =>
 .r 12 (.p (0≤(IntKind.u64.wrap (x3)))) fun _ =>
 .r 13 (.p (0≤(32:Int))) fun _ =>
 .r 15 (.p ((dz .u64 (eW .u64 y (IntKind.u64.wrap (x3))) 32)≠0)) fun _ =>
 .bind true (fun b4=>HQ (dz .u64 (eW .u64 y (IntKind.u64.wrap (x3))) 32) (dP .u64 (eW .u64 y (IntKind.u64.wrap (x3))) 4294967295) (RQ .u64 (eW .u64 hi (IntKind.u64.wrap (x3))) (dz .u64 lo (IntKind.u64.wrap ((64:Int) - (IntKind.u64.wrap (x3)))))) (dz .u64 (eW .u64 lo (IntKind.u64.wrap (x3))) 32) b4.1)
 (.loop (default:Sum (Int × Int) (Int × Int)) (fun i5=>HI (dz .u64 (eW .u64 y (IntKind.u64.wrap (x3))) 32) (dP .u64 (eW .u64 y (IntKind.u64.wrap (x3))) 4294967295) (RQ .u64 (eW .u64 hi (IntKind.u64.wrap (x3))) (dz .u64 lo (IntKind.u64.wrap ((64:Int) - (IntKind.u64.wrap (x3)))))) (dz .u64 (eW .u64 lo (IntKind.u64.wrap (x3))) 32) i5.1 i5.2) (fun i5=>i5.1.toNat) ((IntKind.u64.wrap ((RQ .u64 (eW .u64 hi (IntKind.u64.wrap (x3))) (dz .u64 lo (IntKind.u64.wrap ((64:Int) - (IntKind.u64.wrap (x3)))))).tdiv (dz .u64 (eW .u64 y (IntKind.u64.wrap (x3))) 32)),IntKind.u64.wrap ((RQ .u64 (eW .u64 hi (IntKind.u64.wrap (x3))) (dz .u64 lo (IntKind.u64.wrap ((64:Int) - (IntKind.u64.wrap (x3)))))) - (IntKind.u64.wrap ((IntKind.u64.wrap ((RQ .u64 (eW .u64 hi (IntKind.u64.wrap (x3))) (dz .u64 lo (IntKind.u64.wrap ((64:Int) - (IntKind.u64.wrap (x3)))))).tdiv (dz .u64 (eW .u64 y (IntKind.u64.wrap (x3))) 32))) * (dz .u64 (eW .u64 y (IntKind.u64.wrap (x3))) 32))))):Int × Int)
 (fun (i5:Int × Int)=>⟨[(15,.d (.v (.int .u64 i5.1))),(16,.d (.v (.int .u64 i5.2)))],[]⟩) fun i5 =>
 .br ((decide (i5.1≥4294967296))||(decide ((IntKind.u64.wrap (i5.1 * (dP .u64 (eW .u64 y (IntKind.u64.wrap (x3))) 4294967295))) > (IntKind.u64.wrap ((IntKind.u64.wrap ((4294967296:Int) * i5.2))+(dz .u64 (eW .u64 lo (IntKind.u64.wrap (x3))) 32))))))
 (.br (decide ((IntKind.u64.wrap (i5.2+(dz .u64 (eW .u64 y (IntKind.u64.wrap (x3))) 32)))≥4294967296))
 (.fin (.inl (.inr (IntKind.u64.wrap (i5.1 - 1),IntKind.u64.wrap (i5.2+(dz .u64 (eW .u64 y (IntKind.u64.wrap (x3))) 32))))))
 (.fin (.inr (IntKind.u64.wrap (i5.1 - 1),IntKind.u64.wrap (i5.2+(dz .u64 (eW .u64 y (IntKind.u64.wrap (x3))) 32))))))
 (.fin (.inl (.inr (i5.1,i5.2)))))
 (fun (b4:Int × Int)=>⟨[(15,.d (.v (.int .u64 b4.1))),(16,.d (.v (.int .u64 b4.2)))],[]⟩) fun b4 =>
 .r 22 (.p ((dz .u64 (eW .u64 y (IntKind.u64.wrap (x3))) 32)≠0)) fun _ =>
 .bind true (fun b6=>HQ (dz .u64 (eW .u64 y (IntKind.u64.wrap (x3))) 32) (dP .u64 (eW .u64 y (IntKind.u64.wrap (x3))) 4294967295) (IntKind.u64.wrap ((IntKind.u64.wrap ((IntKind.u64.wrap ((RQ .u64 (eW .u64 hi (IntKind.u64.wrap (x3))) (dz .u64 lo (IntKind.u64.wrap ((64:Int) - (IntKind.u64.wrap (x3)))))) * 4294967296))+(dz .u64 (eW .u64 lo (IntKind.u64.wrap (x3))) 32))) - (IntKind.u64.wrap (b4.1 * (eW .u64 y (IntKind.u64.wrap (x3))))))) (dP .u64 (eW .u64 lo (IntKind.u64.wrap (x3))) 4294967295) b6)
 (.loop (default:Sum (Int × Int) (Int)) (fun i7=>HI (dz .u64 (eW .u64 y (IntKind.u64.wrap (x3))) 32) (dP .u64 (eW .u64 y (IntKind.u64.wrap (x3))) 4294967295) (IntKind.u64.wrap ((IntKind.u64.wrap ((IntKind.u64.wrap ((RQ .u64 (eW .u64 hi (IntKind.u64.wrap (x3))) (dz .u64 lo (IntKind.u64.wrap ((64:Int) - (IntKind.u64.wrap (x3)))))) * 4294967296))+(dz .u64 (eW .u64 lo (IntKind.u64.wrap (x3))) 32))) - (IntKind.u64.wrap (b4.1 * (eW .u64 y (IntKind.u64.wrap (x3))))))) (dP .u64 (eW .u64 lo (IntKind.u64.wrap (x3))) 4294967295) i7.2 i7.1) (fun i7=>i7.2.toNat) ((IntKind.u64.wrap ((IntKind.u64.wrap ((IntKind.u64.wrap ((IntKind.u64.wrap ((RQ .u64 (eW .u64 hi (IntKind.u64.wrap (x3))) (dz .u64 lo (IntKind.u64.wrap ((64:Int) - (IntKind.u64.wrap (x3)))))) * 4294967296))+(dz .u64 (eW .u64 lo (IntKind.u64.wrap (x3))) 32))) - (IntKind.u64.wrap (b4.1 * (eW .u64 y (IntKind.u64.wrap (x3))))))) - (IntKind.u64.wrap ((IntKind.u64.wrap ((IntKind.u64.wrap ((IntKind.u64.wrap ((IntKind.u64.wrap ((RQ .u64 (eW .u64 hi (IntKind.u64.wrap (x3))) (dz .u64 lo (IntKind.u64.wrap ((64:Int) - (IntKind.u64.wrap (x3)))))) * 4294967296))+(dz .u64 (eW .u64 lo (IntKind.u64.wrap (x3))) 32))) - (IntKind.u64.wrap (b4.1 * (eW .u64 y (IntKind.u64.wrap (x3))))))).tdiv (dz .u64 (eW .u64 y (IntKind.u64.wrap (x3))) 32))) * (dz .u64 (eW .u64 y (IntKind.u64.wrap (x3))) 32)))),IntKind.u64.wrap ((IntKind.u64.wrap ((IntKind.u64.wrap ((IntKind.u64.wrap ((RQ .u64 (eW .u64 hi (IntKind.u64.wrap (x3))) (dz .u64 lo (IntKind.u64.wrap ((64:Int) - (IntKind.u64.wrap (x3)))))) * 4294967296))+(dz .u64 (eW .u64 lo (IntKind.u64.wrap (x3))) 32))) - (IntKind.u64.wrap (b4.1 * (eW .u64 y (IntKind.u64.wrap (x3))))))).tdiv (dz .u64 (eW .u64 y (IntKind.u64.wrap (x3))) 32))):Int × Int)
 (fun (i7:Int × Int)=>⟨[(16,.d (.v (.int .u64 i7.1))),(18,.d (.v (.int .u64 i7.2)))],[]⟩) fun i7 =>
 .br ((decide (i7.2≥4294967296))||(decide ((IntKind.u64.wrap (i7.2 * (dP .u64 (eW .u64 y (IntKind.u64.wrap (x3))) 4294967295))) > (IntKind.u64.wrap ((IntKind.u64.wrap ((4294967296:Int) * i7.1))+(dP .u64 (eW .u64 lo (IntKind.u64.wrap (x3))) 4294967295))))))
 (.br (decide ((IntKind.u64.wrap (i7.1+(dz .u64 (eW .u64 y (IntKind.u64.wrap (x3))) 32)))≥4294967296))
 (.fin (.inl (.inr (IntKind.u64.wrap (i7.2 - 1)))))
 (.fin (.inr (IntKind.u64.wrap (i7.1+(dz .u64 (eW .u64 y (IntKind.u64.wrap (x3))) 32)),IntKind.u64.wrap (i7.2 - 1)))))
 (.fin (.inl (.inr i7.2))))
 (fun (b6:Int)=>⟨[(18,.d (.v (.int .u64 b6)))],[]⟩) fun b6 =>
 .r 28 (.p (0≤(IntKind.u64.wrap (x3)))) fun _ =>
 .fin (IntKind.u64.wrap ((IntKind.u64.wrap (b4.1 * 4294967296))+b6),dz .u64 (IntKind.u64.wrap ((IntKind.u64.wrap ((IntKind.u64.wrap ((IntKind.u64.wrap ((IntKind.u64.wrap ((IntKind.u64.wrap ((RQ .u64 (eW .u64 hi (IntKind.u64.wrap (x3))) (dz .u64 lo (IntKind.u64.wrap ((64:Int) - (IntKind.u64.wrap (x3)))))) * 4294967296))+(dz .u64 (eW .u64 lo (IntKind.u64.wrap (x3))) 32))) - (IntKind.u64.wrap (b4.1 * (eW .u64 y (IntKind.u64.wrap (x3))))))) * 4294967296))+(dP .u64 (eW .u64 lo (IntKind.u64.wrap (x3))) 4294967295))) - (IntKind.u64.wrap (b6 * (eW .u64 y (IntKind.u64.wrap (x3))))))) (IntKind.u64.wrap (x3))))
def ui hi lo y:=(k6 hi lo y).val
theorem Jc (hi:Int) (lo:Int) (y:Int) (hP:0≤hi∧hi < y∧y < 18446744073709551616∧0≤lo∧lo < 18446744073709551616):(k6 hi lo y).cZ (fun (x:Int × Int)=>x.1=(hi * 18446744073709551616+lo) / y∧x.2=(hi * 18446744073709551616+lo) % y):=by
  refine Sk.bp _ ?_
  unfold k6
  simp only [Sk.cU,Sk.aO,reduceCtorEq,ON,kk,kp,lh,maxLen]
  refine ⟨fun h=>by simp only [LN] at h; omega,fun _ _=>⟨fun h=>by simp only [LN] at h; omega,fun _ _=>⟨fun h0 _=>?_,fun _ x _ hx=>?_⟩⟩⟩
  · simp only [LN] at h0
    subst h0
    have e:=Int.tdiv_eq_ediv_of_nonneg (a:=lo) (b:=y) hP.2.2.2.1
    have e2:=Int.tmod_eq_emod_of_nonneg (a:=lo) (b:=y) hP.2.2.2.1
    have q0:0≤lo / y:=Int.ediv_nonneg hP.2.2.2.1 (by omega)
    have q1:lo / y≤lo:=Int.ediv_le_self _ hP.2.2.2.1
    rw [e,e2,dA q0 (by omega)]
    simp
  · have hx:=hx ⟨by omega,by omega⟩
    obtain ⟨U,L,eU,eL,eY,hL,hU,hN⟩:=LH hP hx
    simp only [eU,eL,eY,TL]
    have hp:(0:Int) < 2 ^ x.toNat:=Int.pow_pos (by omega)
    have es:∀ a:Int,dz .u64 a (IntKind.u64.wrap x)=a / 2 ^ x.toNat:=fun a=>by
      rw [dA hx.1 (by omega)]
      exact DZ .u64 (b:=x) (by show 0≤x∧x≤64; omega)
    simp only [es]
    have hw:=fun q1 q0=>U5 (y:=y) (q1:=q1) (q0:=q0) (by omega) hp hx.2.2 hL hU hN
    generalize hYY:y * 2 ^ x.toNat=Y at *
    rw [GM (by omega) hx.2.2.2,GM hL.1 hL.2]
    have eY2:Y / 4294967296 * 4294967296+Y % 4294967296=Y:=by omega
    have TH:HY (Y / 4294967296) (Y % 4294967296) U (L / 4294967296):=⟨⟨by omega,by omega⟩,⟨by omega,by omega⟩,⟨by omega,by omega⟩,by omega,by omega⟩
    intro _ _ _ _ _ _
    refine ⟨⟨Ah TH,fun i hi=>⟨fun hc=>?_,fun hc=>Aj TH hi hc⟩⟩,fun b hb=>?_⟩
    · have h:=Ai TH hi hc
      exact ⟨fun h2=>h.2.1 (of_decide_eq_true h2),fun h2=>⟨h.2.2 (Int.not_le.1 (of_decide_eq_false h2)),h.1⟩⟩
    · have r1:=wC TH hb
      rw [eY2] at r1
      rw [r1.1]
      have Rj:HY (Y / 4294967296) (Y % 4294967296) (U * 4294967296+L / 4294967296 - b.1 * Y) (L % 4294967296):=⟨⟨by omega,by omega⟩,⟨by omega,by omega⟩,⟨by omega,by omega⟩,by omega,by omega⟩
      intro _
      refine ⟨⟨Ah Rj,fun i hi=>⟨fun hc=>?_,fun hc=>Aj Rj hi hc⟩⟩,fun q hq=>?_⟩
      · have h:=Ai Rj hi hc
        exact ⟨fun h2=>h.2.1 (of_decide_eq_true h2),fun h2=>⟨h.2.2 (Int.not_le.1 (of_decide_eq_false h2)),h.1⟩⟩
      · intro _
        have r0:=wC Rj hq
        rw [eY2] at r0
        rw [r0.1]
        exact hw _ _ hb hq

theorem sn (hi:Int) (lo:Int) (y:Int):(fun (x:Int × Int)=>(0≤hi∧hi < y∧y < 18446744073709551616∧0≤lo∧lo < 18446744073709551616)→(x.1=(hi * 18446744073709551616+lo) / y∧x.2=(hi * 18446744073709551616+lo) % y)) (ui hi lo y):=fun hP=>Sk.de _ (Jc hi lo y hP)
theorem KS (hi:Int) (lo:Int) (y:Int) (hy:0≤hi∧hi < y∧y < 18446744073709551616∧0≤lo∧lo < 18446744073709551616):(k6 hi lo y).bz (fun _=>True):=by
  refine Sk.aX _ ?_
  unfold k6
  simp only [Sk.km,Sk.aO,reduceCtorEq,ON,kk,kp,lh,maxLen]
  refine ⟨fun h=>by simp only [LN] at h; omega,fun _ _=>⟨fun h=>by simp only [LN] at h; omega,fun _ _=>⟨fun _=>by omega,fun _=>⟨by omega,fun x _ hx=>?_⟩⟩⟩⟩
  have hx:=hx ⟨by omega,by omega⟩
  obtain ⟨U,L,eU,eL,eY,hL,hU,hN⟩:=LH hy hx
  simp only [eU,eL,eY,TL]
  have hp:(0:Int) < 2 ^ x.toNat:=Int.pow_pos (by omega)
  generalize hYY:y * 2 ^ x.toNat=Y at *
  rw [GM (by omega) hx.2.2.2,GM hL.1 hL.2]
  have eY2:Y / 4294967296 * 4294967296+Y % 4294967296=Y:=by omega
  have hn:Y / 4294967296≠0:=by omega
  have TH:HY (Y / 4294967296) (Y % 4294967296) U (L / 4294967296):=⟨⟨by omega,by omega⟩,⟨by omega,by omega⟩,⟨by omega,by omega⟩,by omega,by omega⟩
  refine ⟨(jM _).1,fun _=>⟨by decide,fun _=>⟨⟨(jM _).1,(jM _).1⟩,fun _=>⟨(jM _).1,fun _=>⟨by decide,fun _=>⟨hn,fun _=>⟨⟨Ah TH,fun i hi=>⟨fun hc=>?_,fun hc=>Aj TH hi hc⟩⟩,fun b hb=>⟨hn,fun _=>?_⟩⟩⟩⟩⟩⟩⟩⟩
  · have h:=Ai TH hi hc
    exact ⟨fun h2=>h.2.1 (of_decide_eq_true h2),fun h2=>⟨h.2.2 (Int.not_le.1 (of_decide_eq_false h2)),h.1⟩⟩
  · have r1:=wC TH hb
    rw [eY2] at r1
    rw [r1.1]
    have Rj:HY (Y / 4294967296) (Y % 4294967296) (U * 4294967296+L / 4294967296 - b.1 * Y) (L % 4294967296):=⟨⟨by omega,by omega⟩,⟨by omega,by omega⟩,⟨by omega,by omega⟩,by omega,by omega⟩
    refine ⟨⟨Ah Rj,fun i hi=>⟨fun hc=>?_,fun hc=>Aj Rj hi hc⟩⟩,fun q hq=>(jM _).1⟩
    have h:=Ai Rj hi hc
    exact ⟨fun h2=>h.2.1 (of_decide_eq_true h2),fun h2=>⟨h.2.2 (Int.not_le.1 (of_decide_eq_false h2)),h.1⟩⟩

def mQ hi lo y:=kk tok mixed Tryz.func166 [.d (.v (.int .u64 hi)),.d (.v (.int .u64 lo)),.d (.v (.int .u64 y))] (fun x=>.fL [.d (.v (.int .u64 x.1)),.d (.v (.int .u64 x.2))]) true (k6 hi lo y) (ui hi lo y) (KS hi lo y) (fun (x:Int × Int)=>(0≤hi∧hi < y∧y < 18446744073709551616∧0≤lo∧lo < 18446744073709551616)→(x.1=(hi * 18446744073709551616+lo) / y∧x.2=(hi * 18446744073709551616+lo) % y)) (sn hi lo y)
def k7 (a:Int) (b:Int) (c_:Int):Sk (Int × Int × Bool) :=
 .r 1 ((jg (IntKind.u64.wrap (a)) (IntKind.u64.wrap (b))).c) fun x1 =>
 .br (decide (x1.1≥(IntKind.u64.wrap (c_))))
 (.fin (0,0,false))
 (.r 4 ((mQ x1.1 x1.2 (IntKind.u64.wrap (c_))).c) fun x2 =>
 .br (decide (x2.1 > 1099511627776))
 (.fin (0,0,false))
 (.fin (au (x2.1),au (x2.2),true)))
def l7 a b c_:=(k7 a b c_).val
theorem Jd (a:Int) (b:Int) (c_:Int) (hP:(0≤a∧a≤9223372036854775807)∧(0≤b∧b≤9223372036854775807)∧0 < c_∧c_≤9223372036854775807):(k7 a b c_).cZ (fun (x:Int × Int × Bool)=>x.2.2=true→(0≤x.1∧x.1≤1099511627776)∧x.1=a * b / c_∧x.2.1=a * b % c_):=by
  refine Sk.bp _ ?_
  unfold k7
  simp only [Sk.cU,Sk.aO,reduceCtorEq,ON,kk,kp,mQ,jg,maxLen]
  obtain ⟨ha,hb,L4,DK⟩:=hP
  rw [dA (n:=a) ha.1 (by omega),dA (n:=b) hb.1 (by omega),dA (n:=c_) (by omega) (by omega)]
  intro x _ hx
  obtain ⟨x1,x2,x3⟩:=hx ⟨⟨ha.1,by omega⟩,hb.1,by omega⟩
  intro hc y _ hy hc3
  simp only [LN] at hc hc3
  have hy:=hy ⟨x1.1,by omega,by omega,x2.1,x2.2⟩
  rw [x3] at hy
  have q0:0≤a * b / c_:=Int.ediv_nonneg (Int.mul_nonneg ha.1 hb.1) (by omega)
  have m0:=Int.emod_nonneg (a * b) (b:=c_) (by omega)
  have m1:=Int.emod_lt_of_pos (a * b) (b:=c_) L4
  rw [aG (n:=y.1) (by omega) (by omega),aG (n:=y.2) (by omega) (by omega)]
  omega

theorem Gg (a:Int) (b:Int) (c_:Int):(fun (x:Int × Int × Bool)=>((0≤a∧a≤9223372036854775807)∧(0≤b∧b≤9223372036854775807)∧0 < c_∧c_≤9223372036854775807)→(x.2.2=true→(0≤x.1∧x.1≤1099511627776)∧x.1=a * b / c_∧x.2.1=a * b % c_)) (l7 a b c_):=fun hP=>Sk.de _ (Jd a b c_ hP)
theorem KT (a:Int) (b:Int) (c_:Int):(k7 a b c_).bz (fun _=>True):=by
  refine Sk.aX _ ?_
  unfold k7
  simp only [Sk.km,Sk.aO,reduceCtorEq,ON,kk,kp,mQ,jg,maxLen]
  intro x _ h hc
  simp only [LN] at hc
  obtain ⟨x1,x2,-⟩:=h ⟨jM _,jM _⟩
  exact ⟨x1.1,by omega,(jM _).2,x2.1,x2.2⟩

def xE a b c_:=kk tok mixed Tryz.func162 [iv a,iv b,iv c_] (fun x=>.fL [iv x.1,iv x.2.1,bv x.2.2]) true (k7 a b c_) (l7 a b c_) (u0 (KT a b c_)) (fun (x:Int × Int × Bool)=>((0≤a∧a≤9223372036854775807)∧(0≤b∧b≤9223372036854775807)∧0 < c_∧c_≤9223372036854775807)→(x.2.2=true→(0≤x.1∧x.1≤1099511627776)∧x.1=a * b / c_∧x.2.1=a * b % c_)) (Gg a b c_)
def jv (sum:Int) (gC:Int) (from_:Int) (cj:Int) (basis:Int):Sk (Int × Int) :=
 .r 1 (.dep ((kf sum 1099511627776).c) fun x1=>.dep (.wh (!x1) false ((kf gC 1000).c)) fun x2=>.dep (.wh ((!x1)||(!x2)) false ((kf from_ 100000).c)) fun x3=>.wh (((!x1)||(!x2))||(!x3)) false ((kf cj 100000).c)) fun p6 =>
 .br ((((((!p6.1)||(!p6.2.1))||(!p6.2.2.1))||(!p6.2.2.2))||(decide (cj < from_)))||((basis != 360)&&(basis != 365)))
 (.fin (0,1))
 (.r 3 ((xE sum (au (gC * (au (cj - from_)))) (au ((1000:Int) * basis))).c) fun x5 =>
 .br (!x5.2.2)
 (.fin (0,3))
 (.fin (x5.1,0)))
def pX sum gC from_ cj basis:=(jv sum gC from_ cj basis).val
theorem BP (sum:Int) (gC:Int) (from_:Int) (cj:Int) (basis:Int):(jv sum gC from_ cj basis).cZ (fun (x:Int × Int)=>0≤x.1∧x.1≤1099511627776):=by
  refine Sk.bp _ ?_
  unfold jv
  simp only [Sk.cU,Sk.aO,reduceCtorEq,ON,kk,kp,xE,kf,sm,forall_eq,maxLen]
  refine ⟨fun _=>⟨by decide,by decide⟩,fun hc h=>⟨fun _=>⟨by decide,by decide⟩,fun DK=>?_⟩⟩
  simp only [LN] at hc DK
  have hp0:0≤gC * (cj - from_):=Int.mul_nonneg (by omega) (by omega)
  have hp1:gC * (cj - from_)≤1000 * (cj - from_):=Int.mul_le_mul_of_nonneg_right (by omega) (by omega)
  rw [aG (n:=cj - from_) (by omega) (by omega),aG (n:=gC * (cj - from_)) (by omega) (by omega),aG (n:=1000 * basis) (by omega) (by omega)] at h DK ⊢
  exact (h ⟨by omega,by omega,by omega⟩ DK).1

theorem Dt (sum:Int) (gC:Int) (from_:Int) (cj:Int) (basis:Int):(jv sum gC from_ cj basis).bz (fun _=>True):=by
  unfold jv
  try simp only [xE,kf,sm]
  exact yj

def qN sum gC from_ cj basis:=kp tok mixed Tryz.func122 [iv sum,iv gC,iv from_,iv cj,iv basis] (fun x=>.fL [iv x.1,iv x.2]) true (pX sum gC from_ cj basis) (u0 (Dt sum gC from_ cj basis)) (BP sum gC from_ cj basis)
def im (sum:Int) (lf:Int) (from_:Int) (cj:Int):Sk (Int) :=
 .r 1 ((qN sum lf from_ cj 360).c) fun x1 =>
 .br (x1.2 == 3)
 (.fin 1099511627776)
 (.fin x1.1)
def eo sum lf from_ cj:=(im sum lf from_ cj).val
theorem sC (sum:Int) (lf:Int) (from_:Int) (cj:Int):(im sum lf from_ cj).cZ (fun (x:Int)=>0≤x∧x≤1099511627776):=by
  unfold im
  try simp only [qN]
  exact DB

theorem l8 (sum:Int) (lf:Int) (from_:Int) (cj:Int):(fun (x:Int)=>0≤x∧x≤1099511627776) (eo sum lf from_ cj):=have h:=Sk.de _ (sC sum lf from_ cj); h
theorem BQ (sum:Int) (lf:Int) (from_:Int) (cj:Int):(im sum lf from_ cj).bz (fun _=>True):=by
  unfold im
  try simp only [qN]
  exact pq

def lM sum lf from_ cj:=kp tok mixed Tryz.func69 [iv sum,iv lf,iv from_,iv cj] (fun x=>iv x) true (eo sum lf from_ cj) (u0 (BQ sum lf from_ cj)) (sC sum lf from_ cj)
structure kU where
  num:Int
  den:Int
  deriving Inhabited
def kU.cells (c:kU):List D:=[dI c.num,dI c.den]
def l9 (bE:List oI) (from_:Int) (cj:Int) (day:Int):Sk (Int) :=
 .bind true (fun b1=>b1 = -1∨(0≤b1∧b1 < (bE.length:Int)))
 (.loop (default:Sum (Int) (Int)) (fun i2=>i2.2≤bE.length∧(i2.1 = -1∨(0≤i2.1∧i2.1 < (bE.length:Int)))) (fun i2=>bE.length - i2.2) (((-1),0):Int × Nat)
 (fun (i2:Int × Nat)=>⟨[(9,iv i2.1),(14,iv ((i2.2:Nat):Int))],[]⟩) fun i2 =>
 .lt 0 0 i2.2 bE.length
 (.r 4 (.p (bG ((i2.2:Nat):Int) bE.length)) fun _ =>
 .r 5 (.wh (((((bE.getD i2.2 default).from_) == from_)&&(((bE.getD i2.2 default).cj) == cj))&&(decide (((bE.getD i2.2 default).since)≤day))) true (.wh (decide (i2.1 < 0)) false (.p (bG i2.1 bE.length)))) fun _ =>
 .br ((((((bE.getD i2.2 default).from_) == from_)&&(((bE.getD i2.2 default).cj) == cj))&&(decide (((bE.getD i2.2 default).since)≤day)))&&((decide (i2.1 < 0))||(decide (((bE.getD i2.2 default).since) > ((bE.getD i2.1.toNat default).since)))))
 (.r 7 .z fun _ =>
 .wi 14 (au (((i2.2:Nat):Int)+1)) ((i2.2+1:Nat):Int) <|
 .fin (.inr (((i2.2:Nat):Int),i2.2+1)))
 (.nx 7 14 i2.2 (i2.1,i2.2+1)))
 (.fin (.inl (.inr i2.1))))
 (fun (b1:Int)=>⟨[(9,iv b1)],[]⟩) fun b1 =>
 .fin b1
def Ql bE from_ cj day:=(l9 bE from_ cj day).val
theorem Gh (bE:List oI) (from_:Int) (cj:Int) (day:Int):(l9 bE from_ cj day).cZ (fun (x:Int)=>x = -1∨(0≤x∧x < (bE.length:Int))):=by
  unfold l9
  exact DB

theorem Je (bE:List oI) (from_:Int) (cj:Int) (day:Int):(l9 bE from_ cj day).bz (fun _=>True):=by
  unfold l9
  exact oh

def rl bE from_ cj day:=kp tok mixed Tryz.func163 [lv oI.cells bE,iv from_,iv cj,iv day] (fun x=>iv x) true (Ql bE from_ cj day) (u0 (Je bE from_ cj day)) (Gh bE from_ cj day)
def pY (n:Int):Sk (Int) :=
 .br (decide (n < 0))
 (.fin (IntKind.u64.wrap (0 - (IntKind.u64.wrap (n)))))
 (.fin (IntKind.u64.wrap (n)))
def U6 n:=(pY n).val
theorem KU (n:Int):(pY n).cZ (fun (x:Int)=>0≤x∧x < 18446744073709551616∧(0≤n→n≤9223372036854775807→x=n)):=by
  refine Sk.bp _ ?_
  unfold pY
  simp only [Sk.cU,Sk.aO,reduceCtorEq,ON,kk,kp,maxLen]
  refine ⟨fun hc=>⟨(jM _).1,(jM _).2,fun h=>?_⟩,fun _=>⟨(jM _).1,(jM _).2,fun h1 h2=>dA h1 (by omega)⟩⟩
  simp only [LN] at hc
  omega

theorem Nk (n:Int):(pY n).bz (fun _=>True):=by
  unfold pY
  exact pq

def uZ n:=kp tok mixed Tryz.func202 [iv n] (fun x=>.d (.v (.int .u64 x))) true (U6 n) (u0 (Nk n)) (KU n)
theorem Xu {p q:Int} (hp:0≤p) (hq:0≤q):q.gcd (p.tmod q)=p.gcd q:=by
  obtain ⟨p,rfl⟩:=Int.eq_ofNat_of_zero_le hp
  obtain ⟨q,rfl⟩:=Int.eq_ofNat_of_zero_le hq
  rw [Int.tmod_eq_emod_of_nonneg (by omega),← Int.natCast_emod,Int.gcd_natCast_natCast,Int.gcd_natCast_natCast,Nat.gcd_comm q,Nat.gcd_comm p q,Nat.gcd_rec q p]
theorem LI {i:Int × Int} {a b:Int} (hi:0≤i.1∧0≤i.2∧Int.gcd i.1 i.2=Int.gcd a b) (h:i.2≠0):(0≤i.2∧0≤i.1.tmod i.2∧Int.gcd i.2 (i.1.tmod i.2)=Int.gcd a b)∧(i.1.tmod i.2).toNat < i.2.toNat:=by
  have h1:=Int.tmod_nonneg i.2 hi.1
  have h2:=Int.tmod_lt_of_pos i.1 (b:=i.2) (by omega)
  exact ⟨⟨hi.2.1,h1,(Xu hi.1 hi.2.1).trans hi.2.2⟩,by omega⟩
theorem TM {i:Int × Int} {a b:Int} (hi:0≤i.1∧0≤i.2∧Int.gcd i.1 i.2=Int.gcd a b) (h:i.2=0):i.1=(Int.gcd a b:Int):=by
  rw [← hi.2.2,h]
  have:=hi.1
  simp [Int.gcd_zero_right]
  omega
theorem Qm {n:Int} {g:Int} (hn:1≤n∧n≤1073741824) (hg:0 < g) (hd:g∣n):1≤IntKind.u64.wrap (n.tdiv g)∧IntKind.u64.wrap (n.tdiv g)≤1073741824:=by
  have e:n.tdiv g=n / g:=Int.tdiv_eq_ediv_of_nonneg (by omega)
  have h1:g≤n:=Int.le_of_dvd (by omega) hd
  have h2:1≤n / g:=(Int.le_ediv_iff_mul_le hg).2 (by omega)
  have h3:n / g≤n:=Int.ediv_le_self _ (by omega)
  rw [e,dA (by omega) (by omega)]
  omega
def mR (a:Int) (b:Int):Sk (Int) :=
 .bind true (fun b1=>b1=(Int.gcd a b:Int))
 (.loop (default:Sum (Int) (Int)) (fun i2=>0≤i2.1∧0≤i2.2∧Int.gcd i2.1 i2.2=Int.gcd a b) (fun i2=>i2.2.toNat) ((a,b):Int × Int)
 (fun (i2:Int × Int)=>⟨[(0,.d (.v (.int .u64 i2.1))),(1,.d (.v (.int .u64 i2.2)))],[]⟩) fun i2 =>
 .br (i2.2 != 0)
 (.r 2 (.p (i2.2≠0)) fun _ =>
 .fin (.inr (i2.2,i2.1.tmod i2.2)))
 (.fin (.inl (.inr i2.1))))
 (fun (b1:Int)=>⟨[(0,.d (.v (.int .u64 b1)))],[]⟩) fun b1 =>
 .fin b1
def LJ a b:=(mR a b).val
theorem KV (a:Int) (b:Int) (hP:0≤a∧0≤b):(mR a b).cZ (fun (x:Int)=>x=(Int.gcd a b:Int)):=by
  refine Sk.bp _ ?_
  unfold mR
  simp only [Sk.cU,Sk.aO,reduceCtorEq,ON,kk,kp,maxLen]
  exact ⟨⟨hP,fun i hi=>⟨fun hc _=>LI hi (by simpa using hc),fun hc=>TM hi (by simpa using hc)⟩⟩,fun b hb=>hb⟩

theorem Jf (a:Int) (b:Int):(fun (x:Int)=>(0≤a∧0≤b)→(x=(Int.gcd a b:Int))) (LJ a b):=fun hP=>Sk.de _ (KV a b hP)
theorem Nl (a:Int) (b:Int) (ha:0≤a∧0≤b):(mR a b).bz (fun _=>True):=by
  refine Sk.aX _ ?_
  unfold mR
  simp only [Sk.km,Sk.aO,reduceCtorEq,ON,kk,kp,maxLen]
  exact ⟨ha,fun i hi=>⟨fun hc=>⟨by simpa using hc,fun _=>LI hi (by simpa using hc)⟩,fun hc=>TM hi (by simpa using hc)⟩⟩

def zF a b:=kk tok mixed Tryz.func203 [.d (.v (.int .u64 a)),.d (.v (.int .u64 b))] (fun x=>.d (.v (.int .u64 x))) true (mR a b) (LJ a b) (Nl a b) (fun (x:Int)=>(0≤a∧0≤b)→(x=(Int.gcd a b:Int))) (Jf a b)
structure Gi where
  hi:Int
  lo:Int
  deriving Inhabited
def Gi.cells (c:Gi):List D:=[.v (.int .u64 c.hi),.v (.int .u64 c.lo)]
def k8 (negative:Bool) (num:Gi) (den:Gi):Sk (kU × Int) :=
 .br ((((decide (num.hi > 0))||(decide (den.hi > 0)))||(decide (num.lo > 1152921504606846976)))||(decide (den.lo > 1152921504606846976)))
 (.fin (({ num:=0,den:=0 }:kU),3))
 (.br negative
 (.fin (({ num:=au (0 - (au (num.lo))),den:=au (den.lo) }:kU),0))
 (.fin (({ num:=au (num.lo),den:=au (den.lo) }:kU),0)))
def Jg negative num den:=(k8 negative num den).val
theorem Jh (negative:Bool) (num:Gi) (den:Gi) (hP:num.hi=0∧den.hi=0∧negative=false∧(1≤num.lo∧num.lo≤1073741824)∧1≤den.lo∧den.lo≤1073741824):(k8 negative num den).cZ (fun (x:kU × Int)=>x.1.num=num.lo∧x.1.den=den.lo):=by
  unfold k8
  exact DB

theorem Gj (negative:Bool) (num:Gi) (den:Gi):(fun (x:kU × Int)=>(num.hi=0∧den.hi=0∧negative=false∧(1≤num.lo∧num.lo≤1073741824)∧1≤den.lo∧den.lo≤1073741824)→(x.1.num=num.lo∧x.1.den=den.lo)) (Jg negative num den):=fun hP=>Sk.de _ (Jh negative num den hP)
theorem KW (negative:Bool) (num:Gi) (den:Gi):(k8 negative num den).bz (fun _=>True):=by
  unfold k8
  exact pq

def xF negative num den:=kk tok mixed Tryz.func204 [bv negative,av num.cells,av den.cells] (fun x=>.fL [av x.1.cells,iv x.2]) true (k8 negative num den) (Jg negative num den) (u0 (KW negative num den)) (fun (x:kU × Int)=>(num.hi=0∧den.hi=0∧negative=false∧(1≤num.lo∧num.lo≤1073741824)∧1≤den.lo∧den.lo≤1073741824)→(x.1.num=num.lo∧x.1.den=den.lo)) (Gj negative num den)
def nE (num:Int) (den:Int):Sk (kU × Int) :=
 .br (den == 0)
 (.fin (({ num:=0,den:=0 }:kU),1))
 (.r 3 (.dep ((uZ num).c) fun _=>(uZ den).c) fun p5 =>
 .r 4 ((zF p5.1 p5.2).c) fun x3 =>
 .r 5 (.aq (.p (x3≠0)) (.aq (.p (x3≠0)) ((xF (!((decide (num < 0)) == (decide (den < 0)))) ({ hi:=0,lo:=IntKind.u64.wrap (p5.1.tdiv x3) }:Gi) ({ hi:=0,lo:=IntKind.u64.wrap (p5.2.tdiv x3) }:Gi)).c))) fun x4 =>
 .fin (x4.1,x4.2))
def Sv num den:=(nE num den).val
theorem Ji (num:Int) (den:Int):(nE num den).cZ (fun (x:kU × Int)=>(den=0→x.2=1)∧((1≤num∧num≤1073741824)∧1≤den∧den≤1073741824→(1≤x.1.num∧x.1.num≤1073741824)∧1≤x.1.den∧x.1.den≤1073741824)):=by
  refine Sk.bp _ ?_
  unfold nE
  simp only [Sk.cU,Sk.aO,reduceCtorEq,ON,kk,kp,uZ,zF,xF,maxLen]
  refine ⟨fun hc h=>?_,fun hc x _ hx y _ hy z _ hz=>⟨fun h=>?_,fun h=>?_⟩⟩
  all_goals simp only [LN] at hc
  · omega
  · omega
  · have e1:=hx.1.2.2 (by omega) (by omega)
    have e2:=hx.2.2.2 (by omega) (by omega)
    have hg:=hy ⟨hx.1.1,hx.2.1⟩
    rw [e1,e2] at hg hz
    have JZ:0 < y:=by
      rw [hg]
      have:=Int.gcd_pos_of_ne_zero_left (a:=num) den (by omega)
      omega
    have q1:=Qm h.1 JZ (by rw [hg]; exact Int.gcd_dvd_left ..)
    have q2:=Qm h.2 JZ (by rw [hg]; exact Int.gcd_dvd_right ..)
    have Ym:(!decide (num < 0) == decide (den < 0))=false:=by
      rw [decide_eq_false (by omega),decide_eq_false (by omega)]; rfl
    have:=hz ⟨Ym,q1,q2⟩
    omega

theorem KX (num:Int) (den:Int) (hd:(0≤num∧num≤1073741824)∧0≤den∧den≤1073741824):(nE num den).bz (fun _=>True):=by
  refine Sk.aX _ ?_
  unfold nE
  simp only [Sk.km,Sk.aO,reduceCtorEq,ON,kk,kp,uZ,zF,xF,maxLen]
  intro hc x _ hx
  refine ⟨⟨hx.1.1,hx.2.1⟩,fun y _ hy=>?_⟩
  simp only [LN] at hc
  have hg:=hy ⟨hx.1.1,hx.2.1⟩
  have e2:=hx.2.2.2 (by omega) (by omega)
  have:=Int.gcd_pos_of_ne_zero_right x.1 (b:=x.2) (by omega)
  omega

def xG num den:=kp tok mixed Tryz.func164 [iv num,iv den] (fun x=>.fL [av x.1.cells,iv x.2]) true (Sv num den) (KX num den) (Ji num den)
def kg (r:ah) (from_:Int) (cj:Int) (day:Int):Sk (kU × Bool) :=
 .r 2 ((rl r.bE from_ cj day).c) fun x1 =>
 .bind false (fun b2=>r.dj→(b2.1=0∧b2.2=0)∨((1≤b2.1∧b2.1≤1073741824)∧1≤b2.2∧b2.2≤1073741824))
 (.br (decide (x1≥0))
 (.r 4 (.aq (.p (bG x1 r.bE.length)) (.p (bG x1 r.bE.length))) fun _ =>
 .fin (.inr ((r.bE.getD x1.toNat default).num,(r.bE.getD x1.toNat default).den)))
 (.r 5 ((rl r.bE cj from_ day).c) fun x3 =>
 .br (decide (x3≥0))
 (.r 7 (.aq (.p (bG x3 r.bE.length)) (.p (bG x3 r.bE.length))) fun _ =>
 .fin (.inr ((r.bE.getD x3.toNat default).den,(r.bE.getD x3.toNat default).num)))
 (.fin (.inr (0,0)))))
 (fun (b2:Int × Int)=>⟨[(10,iv b2.1),(11,iv b2.2)],[]⟩) fun b2 =>
 .r 8 ((xG b2.1 b2.2).c) fun x4 =>
 .fin (x4.1,x4.2 == 0)
def ky r from_ cj day:=(kg r from_ cj day).val
theorem Gk (r:ah) (from_:Int) (cj:Int) (day:Int) (hP:r.dj):(kg r from_ cj day).cZ (fun (x:kU × Bool)=>x.2=true→(1≤x.1.num∧x.1.num≤1073741824)∧1≤x.1.den∧x.1.den≤1073741824):=by
  refine Sk.bp _ ?_
  unfold kg
  simp only [Sk.cU,Sk.aO,reduceCtorEq,ON,kk,kp,rl,xG,maxLen]
  intro x _ hx
  refine ⟨⟨fun hc _ hR=>?_,fun hc y _ hy=>⟨fun DK _ hR=>?_,fun _ _=>.inl trivial⟩⟩,fun b _ hb z _ hz h0=>?_⟩
  · simp only [LN] at hc
    exact .inr (hR x.toNat (by omega))
  · simp only [LN] at DK
    exact .inr ⟨(hR y.toNat (by omega)).2,(hR y.toNat (by omega)).1⟩
  · rcases hb hP with h | h
    · have:=hz.1 h.2
      rw [this] at h0
      exact absurd h0 (by decide)
    · exact hz.2 h

theorem qO (r:ah) (from_:Int) (cj:Int) (day:Int):(fun (x:kU × Bool)=>(r.dj)→(x.2=true→(1≤x.1.num∧x.1.num≤1073741824)∧1≤x.1.den∧x.1.den≤1073741824)) (ky r from_ cj day):=fun hP=>Sk.de _ (Gk r from_ cj day hP)
theorem Jj (r:ah) (from_:Int) (cj:Int) (day:Int) (hra:r.dj):(kg r from_ cj day).bz (fun _=>True):=by
  refine Sk.aX _ ?_
  unfold kg
  simp only [Sk.km,Sk.aO,reduceCtorEq,ON,kk,kp,rl,xG,maxLen]
  intro x _ hx
  refine ⟨⟨fun hc=>⟨?_,fun _ hR=>?_⟩,fun hc y _ hy=>⟨fun DK=>⟨?_,fun _ hR=>?_⟩,fun _ _=>.inl trivial⟩⟩,fun b _ hb=>?_⟩
  · simp only [LN] at hc; omega
  · simp only [LN] at hc
    exact .inr (hR x.toNat (by omega))
  · simp only [LN] at DK; omega
  · simp only [LN] at DK
    exact .inr ⟨(hR y.toNat (by omega)).2,(hR y.toNat (by omega)).1⟩
  · rcases hb hra with h | h <;> omega

def rn r from_ cj day:=kk tok mixed Tryz.func123 [av r.cells,iv from_,iv cj,iv day] (fun x=>.fL [av x.1.cells,bv x.2]) true (kg r from_ cj day) (ky r from_ cj day) (Jj r from_ cj day) (fun (x:kU × Bool)=>(r.dj)→(x.2=true→(1≤x.1.num∧x.1.num≤1073741824)∧1≤x.1.den∧x.1.den≤1073741824)) (qO r from_ cj day)
theorem EK {a b:Int} (ha:1≤a∧a≤1073741824) (hb:1≤b∧b≤1073741824):(1≤a * b∧a * b≤1152921504606846976)∧IntKind.u64.wrap (IntKind.u64.wrap a * IntKind.u64.wrap b)=a * b:=by
  have h1:1 * b≤a * b:=Int.mul_le_mul_of_nonneg_right ha.1 (by omega)
  have h2:a * b≤1073741824 * b:=Int.mul_le_mul_of_nonneg_right ha.2 (by omega)
  have h3:1≤a * b∧a * b≤1152921504606846976:=by omega
  rw [dA (n:=a) (by omega) (by omega),dA (n:=b) (by omega) (by omega),dA (by omega) (by omega)]
  exact ⟨h3,rfl⟩
theorem Jk {s D W x y:Int} (hs:0≤s∧s≤1099511627776) (hD:0≤D∧D≤W) (hW:1≤W∧W≤1152921504606846976) (hx:0≤x) (hy:0≤y) (e:x * 18446744073709551616+y=s * D):x < W∧0≤s * D / W∧s * D / W≤s:=by
  have h0:0≤s * D:=Int.mul_nonneg hs.1 hD.1
  have h1:s * D≤s * W:=Int.mul_le_mul_of_nonneg_left hD.2 hs.1
  have h2:s * W≤1099511627776 * W:=Int.mul_le_mul_of_nonneg_right hs.2 (by omega)
  exact ⟨by omega,Int.ediv_nonneg h0 (by omega),Int.ediv_le_of_le_mul (by omega) h1⟩
def kh (sum:Int) (a:kU) (b:kU):Sk (Int) :=
 .br (decide ((IntKind.u64.wrap ((IntKind.u64.wrap (a.num)) * (IntKind.u64.wrap (b.num))))≥(IntKind.u64.wrap ((IntKind.u64.wrap (a.den)) * (IntKind.u64.wrap (b.den))))))
 (.fin 0)
 (.r 4 ((jg (IntKind.u64.wrap (sum)) (IntKind.u64.wrap ((IntKind.u64.wrap ((IntKind.u64.wrap (a.den)) * (IntKind.u64.wrap (b.den)))) - (IntKind.u64.wrap ((IntKind.u64.wrap (a.num)) * (IntKind.u64.wrap (b.num))))))).c) fun x1 =>
 .r 5 ((mQ x1.1 x1.2 (IntKind.u64.wrap ((IntKind.u64.wrap (a.den)) * (IntKind.u64.wrap (b.den))))).c) fun x2 =>
 .fin (au (x2.1)))
def ma sum a b:=(kh sum a b).val
theorem Gl (sum:Int) (a:kU) (b:kU) (hP:(0≤sum∧sum≤1099511627776)∧((1≤a.num∧a.num≤1073741824)∧1≤a.den∧a.den≤1073741824)∧(1≤b.num∧b.num≤1073741824)∧1≤b.den∧b.den≤1073741824):(kh sum a b).cZ (fun (x:Int)=>0≤x∧x≤1099511627776):=by
  refine Sk.bp _ ?_
  unfold kh
  simp only [Sk.cU,Sk.aO,reduceCtorEq,ON,kk,kp,mQ,jg,maxLen]
  obtain ⟨hs,ha,hb⟩:=hP
  obtain ⟨hk,ek⟩:=EK (a:=a.num) (b:=b.num) ha.1 hb.1
  obtain ⟨hw,ew⟩:=EK (a:=a.den) (b:=b.den) ha.2 hb.2
  rw [ek,ew]
  refine ⟨fun _=>⟨by decide,by decide⟩,fun hc x _ hx y _ hy=>?_⟩
  simp only [LN] at hc
  rw [dA (n:=sum) hs.1 (by omega),dA (n:=a.den * b.den - a.num * b.num) (by omega) (by omega)] at hx
  obtain ⟨h1,h2,h3⟩:=hx ⟨⟨hs.1,by omega⟩,by omega,by omega⟩
  obtain ⟨l1,l2,l3⟩:=Jk hs (D:=a.den * b.den - a.num * b.num) (by omega) hw h1.1 h2.1 h3
  have hy:=(hy ⟨h1.1,l1,by omega,h2.1,h2.2⟩).1
  rw [h3] at hy
  rw [aG (by omega) (by omega)]
  omega

theorem EL (sum:Int) (a:kU) (b:kU):(fun (x:Int)=>((0≤sum∧sum≤1099511627776)∧((1≤a.num∧a.num≤1073741824)∧1≤a.den∧a.den≤1073741824)∧(1≤b.num∧b.num≤1073741824)∧1≤b.den∧b.den≤1073741824)→(0≤x∧x≤1099511627776)) (ma sum a b):=fun hP=>Sk.de _ (Gl sum a b hP)
theorem Jl (sum:Int) (a:kU) (b:kU) (hs:0≤sum∧sum≤1099511627776) (ha:(1≤a.num∧a.num≤1073741824)∧1≤a.den∧a.den≤1073741824) (hb:(1≤b.num∧b.num≤1073741824)∧1≤b.den∧b.den≤1073741824):(kh sum a b).bz (fun _=>True):=by
  refine Sk.aX _ ?_
  unfold kh
  simp only [Sk.km,Sk.aO,reduceCtorEq,ON,kk,kp,mQ,jg,maxLen]
  obtain ⟨hk,ek⟩:=EK (a:=a.num) (b:=b.num) ha.1 hb.1
  obtain ⟨hw,ew⟩:=EK (a:=a.den) (b:=b.den) ha.2 hb.2
  rw [ek,ew]
  intro hc x _ hx
  simp only [LN] at hc
  rw [dA (n:=sum) hs.1 (by omega),dA (n:=a.den * b.den - a.num * b.num) (by omega) (by omega)] at hx
  obtain ⟨h1,h2,h3⟩:=hx ⟨⟨hs.1,by omega⟩,by omega,by omega⟩
  obtain ⟨l1,l2,l3⟩:=Jk hs (D:=a.den * b.den - a.num * b.num) (by omega) hw h1.1 h2.1 h3
  exact ⟨h1.1,l1,by omega,h2.1,h2.2⟩

def vx sum a b:=kk tok mixed Tryz.func124 [iv sum,av a.cells,av b.cells] (fun x=>iv x) true (kh sum a b) (ma sum a b) (u3 (Jl sum a b)) (fun (x:Int)=>((0≤sum∧sum≤1099511627776)∧((1≤a.num∧a.num≤1073741824)∧1≤a.den∧a.den≤1073741824)∧(1≤b.num∧b.num≤1073741824)∧1≤b.den∧b.den≤1073741824)→(0≤x∧x≤1099511627776)) (EL sum a b)
def fT (r:ah) (b:qc) (dt:Int) (sum:Int) (from_:Int) (cj:Int):Sk (Int) :=
 .r 1 (.aq (.p (bG dt r.bm.length)) (.p (bG ((r.bm.getD dt.toNat default).bZ) r.aI.length))) fun _ =>
 .br (((r.aI.getD (((r.bm.getD dt.toNat default).bZ).toNat) default).az) == b.az)
 (.fin 0)
 (.r 4 ((rn r b.az ((r.aI.getD (((r.bm.getD dt.toNat default).bZ).toNat) default).az) from_).c) fun x1 =>
 .r 5 ((rn r ((r.aI.getD (((r.bm.getD dt.toNat default).bZ).toNat) default).az) b.az cj).c) fun x2 =>
 .br ((!x1.2)||(!x2.2))
 (.fin 0)
 (.r 8 ((vx sum x1.1 x2.1).c) fun x3 =>
 .fin x3))
def iR r b dt sum from_ cj:=(fT r b dt sum from_ cj).val
theorem AN (r:ah) (b:qc) (dt:Int) (sum:Int) (from_:Int) (cj:Int) (hP:(0≤sum∧sum≤1099511627776)∧r.dj):(fT r b dt sum from_ cj).cZ (fun (x:Int)=>0≤x∧x≤1099511627776):=by
  unfold fT
  try simp only [rn,vx]
  exact DB

theorem mb (r:ah) (b:qc) (dt:Int) (sum:Int) (from_:Int) (cj:Int):(fun (x:Int)=>((0≤sum∧sum≤1099511627776)∧r.dj)→(0≤x∧x≤1099511627776)) (iR r b dt sum from_ cj):=fun hP=>Sk.de _ (AN r b dt sum from_ cj hP)
theorem BS (r:ah) (b:qc) (dt:Int) (sum:Int) (from_:Int) (cj:Int) (hw:0≤dt∧dt < (r.bm.length:Int)) (hs:0≤sum∧sum≤1099511627776) (hfi:r.iH) (hra:r.dj):(fT r b dt sum from_ cj).bz (fun _=>True):=by
  refine Sk.aX _ ?_
  unfold fT
  simp only [Sk.km,Sk.aO,reduceCtorEq,ON,kk,kp,rn,vx,maxLen]
  refine ⟨⟨hw,hfi dt.toNat (by omega)⟩,fun _ _=>⟨hra,fun x _ hx=>⟨hra,fun y _ hy hc=>?_⟩⟩⟩
  simp only [LN] at hc
  exact ⟨hs,hx hra hc.1,hy hra hc.2⟩

def lN r b dt sum from_ cj:=kk tok mixed Tryz.func71 [av r.cells,av b.cells,iv dt,iv sum,iv from_,iv cj] (fun x=>iv x) true (fT r b dt sum from_ cj) (iR r b dt sum from_ cj) (u4 (BS r b dt sum from_ cj)) (fun (x:Int)=>((0≤sum∧sum≤1099511627776)∧r.dj)→(0≤x∧x≤1099511627776)) (mb r b dt sum from_ cj)
def iq (r:ah) (forum:Int) (f:al) (sign:Int) (day:Int):Sk (AM) :=
 .r 1 ((ch f day).c) fun x1 =>
 .r 2 ((rk r forum f sign day).c) fun x2 =>
 .br (((!x2.2)||(decide (sign < 0)))||(decide (sign≥((x1.af.length:Nat):Int))))
 (.fin ({ sum:=0,kT:=0,xW:=0,exchange:=0,Su:=0,rest:=0,az:=0 }:AM))
 (.r 6 ((cK r forum f day).c) fun x3 =>
 .bind false (fun b4=>cm r f→r.dj→(0≤b4.sum∧b4.sum≤1099511627776)∧(0≤b4.kT∧b4.kT≤1099511627776)∧(0≤b4.xW∧b4.xW≤1099511627776)∧(0≤b4.exchange∧b4.exchange≤1099511627776))
 (.br ((x3 != (-1))&&(decide (x3≤(bL day 100000))))
 (.bind false (fun _=>True)
 (.br (f.aR.lf == 0)
 (.r 11 (.dep ((gR r forum 16 ({ file:=f,sign:=sign,jD:=sign,jN:=(-1),due:=x3,day:=day }:fw)).c) fun x6=>(mH x6).c) fun p8 =>
 .fin (.inr (bL 1000 (cg 0 p8.2))))
 (.fin (.inr f.aR.lf)))
 (fun (b5:Int)=>⟨[(18,iv b5)],[]⟩) fun b5 =>
 .r 12 ((lM x2.1.sum b5 x3 (bL day 100000)).c) fun x9 =>
 .r 13 (.dep ((gR r forum 17 ({ file:=f,sign:=sign,jD:=sign,jN:=(-1),due:=x3,day:=day }:fw)).c) fun N8=>(fp N8).c) fun p13 =>
 .br (p13.2 == 1)
 (.r 14 (.aq (.p (bG sign x1.af.length)) ((lN r f.aR ((x1.af.getD sign.toNat default).dt) x2.1.sum x3 (bL day 100000)).c)) fun YX =>
 .fin (.inr ({ sum:=x2.1.sum,kT:=x9,xW:=0,exchange:=YX,Su:=0,rest:=0,az:=f.aR.az }:AM)))
 (.fin (.inr ({ sum:=x2.1.sum,kT:=x9,xW:=0,exchange:=0,Su:=0,rest:=0,az:=f.aR.az }:AM))))
 (.fin (.inr ({ sum:=x2.1.sum,kT:=0,xW:=0,exchange:=0,Su:=0,rest:=0,az:=f.aR.az }:AM))))
 (fun (b4:AM)=>⟨[],[(14,.box (b4.cells.map .d))]⟩) fun b4 =>
 .bind true (fun GK=>cm r f→0≤GK∧GK≤1099511627776)
 (.loop (default:Sum (AM) (Int)) (fun i15=>i15.1≤x1.aA.length∧(cm r f→0≤i15.2∧i15.2≤1099511627776)) (fun i15=>x1.aA.length - i15.1) ((0,b4.xW):Nat × Int)
 (fun (i15:Nat × Int)=>⟨[(116,iv ((i15.1:Nat):Int))],[(14,.box [iv b4.sum,iv b4.kT,iv i15.2,iv b4.exchange,iv b4.Su,iv b4.rest,iv b4.az])]⟩) fun i15 =>
 .lt 114 0 i15.1 x1.aA.length
 (.r 17 (.p (bG ((i15.1:Nat):Int) x1.aA.length)) fun _ =>
 .br ((((x1.aA.getD i15.1 default).kind) == 4)||(((x1.aA.getD i15.1 default).kind) == 5))
 (.r 20 .z fun _ =>
 .wi 116 (au (((i15.1:Nat):Int)+1)) ((i15.1+1:Nat):Int) <|
 .fin (.inr (i15.1+1,bL 1099511627776 (au (i15.2+((x1.aA.getD i15.1 default).sum))))))
 (.nx 20 116 i15.1 (i15.1+1,i15.2)))
 (.fin (.inl (.inr i15.2))))
 (fun (GK:Int)=>⟨[],[(14,.box [iv b4.sum,iv b4.kT,iv GK,iv b4.exchange,iv b4.Su,iv b4.rest,iv b4.az])]⟩) fun GK =>
 .fin ({ b4 with xW:=GK,rest:=bL 1099511627776 (au ((au ((au (b4.sum+b4.kT))+GK))+b4.exchange)) }))
def gj r forum f sign day:=(iq r forum f sign day).val
theorem Gm (r:ah) (forum:Int) (f:al) (sign:Int) (day:Int) (hP:cm r f∧r.dj):(iq r forum f sign day).cZ (fun (x:AM)=>0≤x.rest∧x.rest≤1099511627776):=by
  refine Sk.bp _ ?_
  unfold iq
  simp only [Sk.cU,Sk.aO,reduceCtorEq,ON,kk,kp,lN,lM,gR,cK,mH,fp,rk,ch,maxLen]
  obtain ⟨hF,hR⟩:=hP
  have aaZ:=hF.UH
  have hSm:=hF.small
  have hw:∀ h1:al,h1=ai f day→0≤sign→sign < (h1.af.length:Int)→0≤(h1.af.getD sign.toNat default).dt∧(h1.af.getD sign.toNat default).dt < (r.bm.length:Int):=fun h1 e a b=>by subst e; exact hF.W7 day a b
  have ha:∀ h1:al,h1=ai f day→∀ q:Nat,q < h1.aA.length→0≤(h1.aA.getD q default).sum∧(h1.aA.getD q default).sum≤1099511627776:=fun h1 e q hq=>by subst e; exact (hF.MU day).2.2.2 q hq
  all_goals (repeat' first | assumption | (apply And.intro) | (intro h))
  all_goals first | trivial | assumption | omega | (try simp only [hF,hR,aaZ,hSm,and_self,and_true,true_implies,forall_const,LN] at *) <;> first | omega | assumption | exact (hw _ ‹_=ai f day› (by omega) (by omega)).1 | exact (hw _ ‹_=ai f day› (by omega) (by omega)).2 | (simp (disch:=omega) only [aG] at *; omega) | (simp (disch:=omega) only [aG,bL] at *; split <;> omega) | (have hq:=ha _ ‹_=ai f day› _ (Int.ofNat_lt.1 (by assumption)); simp (disch:=omega) only [aG,bL] at *; first | omega | (split <;> omega))

theorem wD (r:ah) (forum:Int) (f:al) (sign:Int) (day:Int):(fun (x:AM)=>(cm r f∧r.dj)→(0≤x.rest∧x.rest≤1099511627776)) (gj r forum f sign day):=fun hP=>Sk.de _ (Gm r forum f sign day hP)
theorem Jm (r:ah) (forum:Int) (f:al) (sign:Int) (day:Int) (hF:cm r f) (bM:f.Small) (cu:r.cG) (bN:r.Small) (kL:r.iH) (jI:r.dj):(iq r forum f sign day).bz (fun _=>True):=by
  refine Sk.aX _ ?_
  unfold iq
  simp only [Sk.km,Sk.aO,reduceCtorEq,ON,kk,kp,lN,lM,gR,cK,mH,fp,rk,ch,maxLen]
  have aaZ:=hF.UH
  have hSm:=hF.small
  have hw:∀ h1:al,h1=ai f day→0≤sign→sign < (h1.af.length:Int)→0≤(h1.af.getD sign.toNat default).dt∧(h1.af.getD sign.toNat default).dt < (r.bm.length:Int):=fun h1 e a b=>by subst e; exact hF.W7 day a b
  have ha:∀ h1:al,h1=ai f day→∀ q:Nat,q < h1.aA.length→0≤(h1.aA.getD q default).sum∧(h1.aA.getD q default).sum≤1099511627776:=fun h1 e q hq=>by subst e; exact (hF.MU day).2.2.2 q hq
  all_goals (repeat' first | assumption | (apply And.intro) | (intro h))
  all_goals first | trivial | assumption | omega | (try simp only [hF,jI,aaZ,hSm,and_self,and_true,true_implies,forall_const,LN] at *) <;> first | omega | assumption | exact (hw _ ‹_=ai f day› (by omega) (by omega)).1 | exact (hw _ ‹_=ai f day› (by omega) (by omega)).2 | (simp (disch:=omega) only [aG] at *; omega) | (simp (disch:=omega) only [aG,bL] at *; split <;> omega) | (have hq:=ha _ ‹_=ai f day› _ (Int.ofNat_lt.1 (by assumption)); simp (disch:=omega) only [aG,bL] at *; first | omega | (split <;> omega))

def vz r forum f sign day:=kk tok mixed Tryz.func29 [av r.cells,iv forum,av f.cells,iv sign,iv day] (fun x=>av x.cells) true (iq r forum f sign day) (gj r forum f sign day) (u6 (Jm r forum f sign day)) (fun (x:AM)=>(cm r f∧r.dj)→(0≤x.rest∧x.rest≤1099511627776)) (wD r forum f sign day)
def k9 (r:ah) (forum:Int) (f:al) (day:Int):Sk ((List Claim)) :=
 .r 1 ((Ez r forum f day).c) fun x1 =>
 .br (!x1.2)
 (.fin [])
 (.r 4 ((ua r forum f day).c) fun x2 =>
 .bind true (fun b3=>b3.length≤1000000)
 (.loop (default:Sum ((List Claim)) ((List Claim))) (fun i4=>i4.1≤x1.1.view.lead.length∧i4.2.length≤i4.1 * 10000) (fun i4=>x1.1.view.lead.length - i4.1) ((0,[]):Nat × (List Claim))
 (fun (i4:Nat × (List Claim))=>⟨[(42,iv ((i4.1:Nat):Int))],[(100366,bO 50 9 Claim.cells i4.2),(12,.box [ow 100366 i4.2])]⟩) fun i4 =>
 .lt 40 0 i4.1 x1.1.view.lead.length
 (.bind true (fun b5=>b5.length≤i4.2.length+10000)
 (.r 8 (.p (bG ((i4.1:Nat):Int) x1.1.view.lead.length)) fun _ =>
 .r 9 ((qH x1.1.view (x1.1.view.lead.getD i4.1 default)).c) fun x6 =>
 .r 10 ((ue x1.1 x6).c) fun _ =>
 .bind true (fun b8=>b8.length≤i4.2.length+10000)
 (.rf (kI x1.1 x6) (fun ki9 i9=>i9.length≤i4.2.length+ki9 * 100) (fun (_:Unit)=>False) 2 (i4.2:(List Claim))
 (fun (i9:(List Claim))=>[(100534,bO 50 9 Claim.cells i9),(12,.box [ow 100534 i9])]) (fun (_:Unit)=>[])
 (fun i9 Sw =>
 .bind true (fun b12=>b12.length≤i9.length+100)
 (.r 12 ((pU x1.1.view (x1.1.view.lead.getD i4.1 default) Sw.sign x6).c) fun Ie =>
 .bind true (fun GK=>GK.2.length≤i9.length+Ie.length)
 (.loop (default:Sum (Sum (Sum (Unit) ((List Claim))) ((List Claim))) (Int × (List Claim))) (fun i15=>i15.1≤Ie.length∧i15.2.length≤i9.length+i15.1) (fun i15=>Ie.length - i15.1) ((0,i9):Nat × (List Claim))
 (fun (i15:Nat × (List Claim))=>⟨[(62,iv ((i15.1:Nat):Int))],[(100548,bO 50 9 Claim.cells i15.2),(12,.box [ow 100548 i15.2])]⟩) fun i15 =>
 .lt 60 0 i15.1 Ie.length
 (.r 14 (.p (bG ((i15.1:Nat):Int) Ie.length)) fun _ =>
 .r 15 (.p (bG (Ie.getD i15.1 default) x1.1.view.now.af.length)) fun _ =>
 .r 16 ((pW x1.1 Sw (Ie.getD i15.1 default) x6 x2).c) fun US =>
 .br ((US.1 == 0)||(((x1.1.view.now.af.getD ((Ie.getD i15.1 default).toNat) default).dt) == Sw.fA))
 (.nx 20 62 i15.1 (i15.1+1,i15.2))
 (.r 18 ((vz r forum f (Ie.getD i15.1 default) day).c) fun X3 =>
 .r 19 (.aq (.o [.fU (gA Claim.E [({ aF:=(x1.1.view.now.af.getD ((Ie.getD i15.1 default).toNat) default).dt,ak:=Sw.fA,part:=x1.1.view.lead.getD i4.1 default,sign:=Ie.getD i15.1 default,cz:=Sw.sign,dR:=US.2,sum:=X3.rest,az:=f.aR.az,state:=US.1 }:Claim)])]) (.aq (.o [.fU (oe Claim.E i15.2 [({ aF:=(x1.1.view.now.af.getD ((Ie.getD i15.1 default).toNat) default).dt,ak:=Sw.fA,part:=x1.1.view.lead.getD i4.1 default,sign:=Ie.getD i15.1 default,cz:=Sw.sign,dR:=US.2,sum:=X3.rest,az:=f.aR.az,state:=US.1 }:Claim)])]) (.aq (.t (Claim.E.qb [({ aF:=(x1.1.view.now.af.getD ((Ie.getD i15.1 default).toNat) default).dt,ak:=Sw.fA,part:=x1.1.view.lead.getD i4.1 default,sign:=Ie.getD i15.1 default,cz:=Sw.sign,dR:=US.2,sum:=X3.rest,az:=f.aR.az,state:=US.1 }:Claim)])) (.p (yi i15.2.length [({ aF:=(x1.1.view.now.af.getD ((Ie.getD i15.1 default).toNat) default).dt,ak:=Sw.fA,part:=x1.1.view.lead.getD i4.1 default,sign:=Ie.getD i15.1 default,cz:=Sw.sign,dR:=US.2,sum:=X3.rest,az:=f.aR.az,state:=US.1 }:Claim)].length 72))))) fun _ =>
 .r 20 .z fun _ =>
 .wi 62 (au (((i15.1:Nat):Int)+1)) ((i15.1+1:Nat):Int) <|
 .fin (.inr (i15.1+1,i15.2++[({ aF:=(x1.1.view.now.af.getD ((Ie.getD i15.1 default).toNat) default).dt,ak:=Sw.fA,part:=x1.1.view.lead.getD i4.1 default,sign:=Ie.getD i15.1 default,cz:=Sw.sign,dR:=US.2,sum:=X3.rest,az:=f.aR.az,state:=US.1 }:Claim)]))))
 (.fin (.inl (.inr (((i15.1:Nat):Int),i15.2)))))
 (fun (GK:Int × (List Claim))=>⟨[(62,iv GK.1)],[(100547,bO 50 9 Claim.cells GK.2),(12,.box [ow 100547 GK.2])]⟩) fun GK =>
 .fin (.inr GK.2))
 (fun (b12:(List Claim))=>⟨[],[(100545,bO 50 9 Claim.cells b12),(12,.box [ow 100545 b12])]⟩) fun b12 =>
 .fin (.inr b12)) fun r=>match r with
 | .inl _=>(.dead default)
 | .inr j18=>(.fin (.inr j18)))
 (fun (b8:(List Claim))=>⟨[],[(100526,bO 50 9 Claim.cells b8),(12,.box [ow 100526 b8])]⟩) fun b8 =>
 .fin (.inr b8))
 (fun (b5:(List Claim))=>⟨[],[(100503,bO 50 9 Claim.cells b5),(12,.box [ow 100503 b5])]⟩) fun b5 =>
 .nx 21 42 i4.1 (i4.1+1,b5))
 (.fin (.inl (.inr i4.2))))
 (fun (b3:(List Claim))=>⟨[],[(100274,bO 50 9 Claim.cells b3),(12,.box [ow 100274 b3])]⟩) fun b3 =>
 .fin b3)
def bV r forum f day:=(k9 r forum f day).val
theorem A8 (r:ah) (forum:Int) (f:al) (day:Int) (hF:cm r f) (bM:f.Small) (cu:r.cG) (bN:r.Small) (kL:r.iH) (jI:r.dj):(k9 r forum f day).bz (fun _=>True):=by
  refine Sk.aX _ ?_
  unfold k9
  simp only [Sk.km,Sk.aO,reduceCtorEq,ON,kk,kp,Sk.cU,vz,ua,ue,pW,Ez,pU,qH,kI,Sum.forall,AG,forall_eq,maxLen]
  refine ⟨⟨bM,cu,bN⟩,?_⟩
  generalize aC r forum f day=x
  intro hx hc
  have he:=(hx (by simpa using hc)).1
  have ho:=A5 f day
  dsimp only at ho
  have o9:x.1.view.all=f:=by rw [he]; exact ho.1
  have Jn:x.1.view.now=ai f day:=by rw [he]; exact ho.2.1
  have PO:x.1.view.day=day:=by rw [he]; exact ho.2.2.1
  have hxr:x.1.r=r:=by rw [he]
  have aet:=hF.2.1.1
  have acE:x.1.view.lead.length≠0∧x.1.view.lead.length≤41:=by rw [he]; exact ⟨ho.2.2.2.1,by have:=ho.2.2.2.2; show (aB f day).lead.length≤41; omega⟩
  have hsg:=mE f day
  have acF:x.1.view.jC:=by unfold View.jC; rw [Jn]; exact hF.MV day
  have va:∀ part,(aj x.1.view part).length≤40∧∀ y,y∈aj x.1.view part→0≤y∧y < ((ai f day).af.length:Int):=fun part=>by
    have h:=nc x.1.view part
    rw [o9,PO] at h
    exact ⟨Nat.le_trans h.1 aet,fun y hy=>⟨(h.2 y hy).1,hF.ZR (h.2 y hy).1 (h.2 y hy).2.1 (h.2 y hy).2.2⟩⟩
  have hlg:∀ part i,i < (aj x.1.view part).length→0≤(aj x.1.view part).getD i default∧(aj x.1.view part).getD i default < ((ai f day).af.length:Int):=fun part i hi=>(va part).2 _ (tI hi _)
  have LW:∀ part,Ss x.1 (aj x.1.view part):=fun part=>by
    refine ⟨by have:=(va part).1; omega,fun i hi=>by rw [Jn]; exact hlg part i hi,fun i hi=>?_⟩
    have hs:x.1.view.now.Small:=by rw [Jn]; exact zc bM day
    have hb:x.1.r.cG:=by rw [hxr]; exact cu
    have hr:x.1.r.Small:=by rw [hxr]; exact bN
    exact ⟨hs,hb,hr⟩
  have hol:∀ part k y,(bn x.1 (aj x.1.view part))[k]? = some y→k≤40:=fun part k y h=>by
    have h1:=(List.getElem?_eq_some_iff.1 h).1
    have h2:=BM x.1 (aj x.1.view part)
    have h3:=(va part).1
    omega
  have JN:∀ part b l,(aZ x.1.view part b l).length≤40∧∀ i,i < (aZ x.1.view part b l).length→0≤(aZ x.1.view part b l).getD i default∧(aZ x.1.view part b l).getD i default < ((ai f day).af.length:Int):=fun part b l=>by
    have h:=rQ x.1.view part b l
    rw [Jn] at h
    exact ⟨Nat.le_trans h.1 (by omega),fun i hi=>h.2 _ (tI hi _)⟩
  refine ⟨⟨bM,cu,bN⟩,fun hE=>⟨⟨Nat.zero_le _,by simp⟩,fun i hi hm=>⟨fun eC=>⟨⟨by simp only [LN] at eC; omega,fun _=>⟨by rw [o9]; exact bM,fun _ _=>⟨⟨LW _,by omega,fun k s y hs hy=>?_,?_⟩,?_⟩⟩⟩,?_⟩,?_⟩⟩⟩
  · have hk:=hol _ _ _ hy
    obtain ⟨hn,hg⟩:=JN (x.1.view.lead.getD i.1 default) y.sign (aj x.1.view (x.1.view.lead.getD i.1 default))
    have yt:∀ (l:List Claim) (c:Claim),(l++[c]).length=l.length+1:=fun l c=>by simp
    have afa:i.2.length≤410000:=by simp only [LN] at eC; omega
    refine ⟨⟨fun _=>⟨⟨⟨Nat.zero_le _,Nat.le_refl _⟩,fun j hj=>⟨fun hc _ _=>⟨fun _ _=>?_,fun _ _ _ _=>?_⟩,fun hc=>?_⟩⟩,fun b hb=>?_⟩,fun b _ hb=>?_⟩,⟨⟨acE.1,by rw [Jn]; omega⟩,fun _=>?_⟩,?_⟩
    · simp only [LN] at hc; exact ⟨⟨by omega,by omega⟩,by omega⟩
    · simp only [LN] at hc; rw [yt]; exact ⟨⟨by omega,by omega⟩,by omega⟩
    · simp only [LN] at hc; omega
    · omega
    · omega
    · have e1:x.1.view.now=ai x.1.view.all x.1.view.day:=by rw [Jn,o9,PO]
      have e2:cm x.1.r x.1.view.all:=by rw [hxr,o9]; exact hF
      have e3:x.1.view.all.Small:=by rw [o9]; exact bM
      have e4:x.1.r.cG:=by rw [hxr]; exact cu
      have e5:x.1.r.Small:=by rw [hxr]; exact bN
      have e6:(aQ r forum f day).length=x.1.view.now.af.length:=by rw [Jn]; exact hE
      have h1:∀ c:Claim,[c].length=1:=fun _=>rfl
      refine ⟨⟨⟨Nat.zero_le _,Nat.le_refl _⟩,fun j hj hm2=>⟨fun hc=>?_,fun hc=>?_⟩⟩,fun b hb=>by omega⟩
      · simp only [LN] at hc
        have hgj:=hg j.1 (by omega)
        rw [← Jn] at hgj
        refine ⟨⟨by omega,by omega⟩,fun _=>⟨hgj,fun _=>⟨⟨e6,hgj,e1,e2,acF,e3,e4,e5⟩,fun _ _=>⟨(aG (by omega) (by omega)).trans (by omega),⟨by omega,by omega⟩,by omega⟩,fun _=>⟨⟨hF,bM,cu,bN,kL,jI⟩,fun _=>⟨?_,fun _ _=>⟨(aG (by omega) (by omega)).trans (by omega),⟨by omega,?_⟩,by omega⟩⟩⟩⟩⟩⟩
        · rw [h1]; omega
        · rw [yt]; omega
      · simp only [LN] at hc; omega
    · exact fun b _ hb=>by omega
  · intro b hb
    have h2:=BM x.1 (aj x.1.view (x.1.view.lead.getD i.1 default))
    have h3:=(va (x.1.view.lead.getD i.1 default)).1
    omega
  · exact fun b _ hb=>hb
  · intro b _ hb _
    simp only [LN] at eC
    exact ⟨(aG (by omega) (by omega)).trans (by omega),⟨by omega,by omega⟩,by omega⟩
  · intro hc
    simp only [LN] at hc
    omega

def Nn r forum f day:=kk tok mixed Tryz.func10 [av r.cells,iv forum,av f.cells,iv day] (fun x=>lv Claim.cells x) false (k9 r forum f day) (bV r forum f day) (u6 (A8 r forum f day))
theorem Jo (r:ah) (forum:Int) (f:al) (day:Int) (hF:cm r f) (bM:f.Small) (cu:r.cG) (bN:r.Small) (kL:r.iH) (jI:r.dj):gr Tryz.prog 10 [av r.cells,iv forum,av f.cells,iv day] [] (ow 777777 (bV r forum f day)) [(777777,bO 50 9 Claim.cells (bV r forum f day))] :=
  gr.sk tok mixed (fun x=>ow 777777 x) (fun x=>[(777777,bO 50 9 Claim.cells x)]) Tryz.func10 rfl (by kernel_rfl) 3000 (k9 r forum f day) (by kernel_rfl) (A8 r forum f day hF bM cu bN kL jI)
def vA (κ:Nat) (r:ah) (forum:Int) (f:al) (day:Int):iX ((List Claim)):=⟨Tryz.prog,10,[av r.cells,iv forum,av f.cells,iv day],fun x=>ow κ x,fun x=>[(κ,bO 50 9 Claim.cells x)],bV r forum f day,(cm r f)∧(f.Small)∧(r.cG)∧(r.Small)∧(r.iH)∧(r.dj),fun h=>gr.WI κ (Jo r forum f day h.1 h.2.1 h.2.2.1 h.2.2.2.1 h.2.2.2.2.1 h.2.2.2.2.2),fun _=>True,trivial⟩
def rq (s:Sign) (v:bh):Sk (Bool) :=
 .fin (s.dt == v.cj)
def gw s v:=(rq s v).val
theorem rr (s:Sign) (v:bh):gw s v=(s.dt == v.cj):=rfl
theorem KY (s:Sign) (v:bh):(rq s v).bz (fun _=>True):=by
  unfold rq
  exact pq

def xH s v:=kk tok mixed Tryz.func49 [av s.cells,.ref v.cells] (fun x=>bv x) true (rq s v) (gw s v) (u0 (KY s v))
def fk (s:List Sign) (v:bh):Sk (Int) :=
 .bind true (fun b1=>∀ q,q < s.length→gw (s.getD q default) v=false)
 (.loop (default:Sum (Int) (Unit)) (fun i2=>∀ q,q < i2→gw (s.getD q default) v=false) (fun i2=>s.length - i2) (0:Nat)
 (fun (i2:Nat)=>⟨[(8,iv ((i2:Nat):Int))],[]⟩) fun i2 =>
 .lt 0 0 i2 s.length
 (.r 4 (.aq (.p (bG ((i2:Nat):Int) s.length)) ((xH (s.getD i2 default) v).c)) fun x3 =>
 .br x3
 (.fin (.inl (.inl ((i2:Nat):Int))))
 (.nx 6 8 i2 (i2+1)))
 (.fin (.inl (.inr ()))))
 (fun (_:Unit)=>⟨[],[]⟩) fun _ =>
 .fin (-1)
def AO s v:=(fk s v).val
theorem wE (s:List Sign) (v:bh):(fk s v).cZ (fun (x:Int)=>(x = -1∧∀ q,q < s.length→gw (s.getD q default) v=false)∨(0≤x∧x < s.length∧gw (s.getD x.toNat default) v=true∧∀ q,(q:Nat) < x.toNat→gw (s.getD q default) v=false)):=by
  unfold fk
  try simp only [xH,rr]
  exact RS

theorem xI (s:List Sign) (v:bh):(fk s v).bz (fun _=>True):=by
  unfold fk
  try simp only [xH,rr]
  exact yj

def lj s v:=kp tok mixed Tryz.func86 [lv Sign.cells s,.fn 49 [.ref v.cells]] (fun x=>iv x) true (AO s v) (u0 (xI s v)) (wE s v)
def dM (s:List Sign) (v:bh):Sk (Bool) :=
 .r 1 ((lj s v).c) fun x1 =>
 .fin (decide (x1≥0))
def kM s v:=(dM s v).val
theorem uj (s:List Sign) (v:bh):(dM s v).cZ (fun (x:Bool)=>(x=true↔∃ q,q < s.length∧gw (s.getD q default) v=true)):=by
  unfold dM
  try simp only [lj]
  exact DB

theorem ux (s:List Sign) (v:bh):(dM s v).bz (fun _=>True):=by
  unfold dM
  try simp only [lj]
  exact pq

def ga s v:=kp tok mixed Tryz.func48 [lv Sign.cells s,.fn 49 [.ref v.cells]] (fun x=>bv x) true (kM s v) (u0 (ux s v)) (uj s v)
theorem Qn {β Y γ:Type} (g:Y→List β) {f:List β→Y→γ ⊕ List β}:∀ (l:List Y) (s:List β),(∀ s y,y∈l→f s y=.inr (s++g y))→ph f l s=.inr (s++l.flatMap g)
  | [],s,_=>by simp [ph]
  | y :: r,s,h=>by
    simp only [ph,h s y (by simp)]
    rw [Qn g r _ (fun s z hz=>h s z (by simp [hz]))]
    simp
theorem Qo {α β ι δ:Type} [Inhabited α] (l:List α) (g:α→List β) (pack:List β→Nat→ι) {f:ι→δ ⊕ ι} {d:δ} (e:List β→δ)
    (hs:∀ s i,i < l.length→f (pack s i)=.inr (pack (s++g (l.getD i default)) (i+1))) (he:∀ s,f (pack s l.length)=.inl (e s)) {n:Nat} (hn:l.length < n) (s:List β):iter f d n (pack s 0)=e (s++l.flatMap g):=by
  rw [og (d:=d) l pack (fun x s=>.inr (s++g x)) e hs he hn s,j0 (fun x s=>s++g x) e]
  congr 1
  clear hs he hn
  induction l generalizing s with
  | nil=>simp
  | cons x r ih=>rw [List.foldl_cons,ih]; simp
/-- a lu of an owner by a signature,if there is one -/
def nZ (r:ah) (forum:Int) (f:al) (day:Int) (c:eu) (eff:List cC) (links:List Int) (part:Int) (o:kd) (sign:Int):List Claim :=
  bif (aK c o sign links eff).1 == 0||(c.view.now.af.getD sign.toNat default).dt == o.fA then [] else
  [{ aF:=(c.view.now.af.getD sign.toNat default).dt,ak:=o.fA,part:=part,sign:=sign,cz:=o.sign,dR:=(aK c o sign links eff).2,sum:=(gj r forum f sign day).rest,az:=f.aR.az,state:=(aK c o sign links eff).1 }]
def zG (r:ah) (forum:Int) (f:al) (day:Int) (c:eu) (eff:List cC):List Claim :=
  c.view.lead.flatMap fun part=>(bn c (aj c.view part)).flatMap fun o=>(aZ c.view part o.sign (aj c.view part)).flatMap fun sign=>nZ r forum f day c eff (aj c.view part) part o sign
theorem wF (r:ah) (forum:Int) (f:al) (day:Int):bV r forum f day=bif !(aC r forum f day).2 then [] else zG r forum f day (aC r forum f day).1 (aQ r forum f day):=by
  unfold bV k9
  dsimp +instances only [Sk.dh,Sk.gd,Sk.iY,Sk.eQ,Sk.iE,Sk.lT,Sk.cO,Sk.WM,gm.xP,kk,kp,Ez,ua,qH,pU,pW,vz,kI,bg.pn]
  cases (aC r forum f day).2 with
  | false=>rfl
  | true =>
    simp only [Bool.not_true,cond_false]
    refine Eq.trans (congrArg (fun q=>gH q fun b=>b) (Qo (aC r forum f day).1.view.lead (fun part=>(bn (aC r forum f day).1 (aj (aC r forum f day).1.view part)).flatMap fun o=>(aZ (aC r forum f day).1.view part o.sign (aj (aC r forum f day).1.view part)).flatMap fun sign=>nZ r forum f day (aC r forum f day).1 (aQ r forum f day) (aj (aC r forum f day).1.view part) part o sign) (fun s i=>(i,s)) (fun s=>Sum.inr s) (fun s i hi=>?_) (fun s=>?_) (by simp) [])) ?_
    · dsimp only
      rw [decide_eq_true (by omega),cond_true]
      rw [Qn (fun o=>(aZ (aC r forum f day).1.view ((aC r forum f day).1.view.lead.getD i default) o.sign (aj (aC r forum f day).1.view ((aC r forum f day).1.view.lead.getD i default))).flatMap fun sign=>nZ r forum f day (aC r forum f day).1 (aQ r forum f day) (aj (aC r forum f day).1.view ((aC r forum f day).1.view.lead.getD i default)) ((aC r forum f day).1.view.lead.getD i default) o sign) _ s (fun s y _=>?_)]
      · rfl
      · refine Eq.trans (congrArg (fun q=>gH (gH q _) _) (Qo (aZ (aC r forum f day).1.view ((aC r forum f day).1.view.lead.getD i default) y.sign (aj (aC r forum f day).1.view ((aC r forum f day).1.view.lead.getD i default))) (fun sign=>nZ r forum f day (aC r forum f day).1 (aQ r forum f day) (aj (aC r forum f day).1.view ((aC r forum f day).1.view.lead.getD i default)) ((aC r forum f day).1.view.lead.getD i default) y sign) (fun s i=>(i,s)) (fun s=>Sum.inr (((aZ (aC r forum f day).1.view ((aC r forum f day).1.view.lead.getD i default) y.sign (aj (aC r forum f day).1.view ((aC r forum f day).1.view.lead.getD i default))).length:Int),s)) (fun s k hk=>?_) (fun s=>?_) (by simp) s)) ?_
        · dsimp only
          rw [decide_eq_true (by omega),cond_true]
          unfold nZ
          cases (aK (aC r forum f day).1 y ((aZ (aC r forum f day).1.view ((aC r forum f day).1.view.lead.getD i default) y.sign (aj (aC r forum f day).1.view ((aC r forum f day).1.view.lead.getD i default))).getD k default) (aj (aC r forum f day).1.view ((aC r forum f day).1.view.lead.getD i default)) (aQ r forum f day)).1 == 0||((aC r forum f day).1.view.now.af.getD ((aZ (aC r forum f day).1.view ((aC r forum f day).1.view.lead.getD i default) y.sign (aj (aC r forum f day).1.view ((aC r forum f day).1.view.lead.getD i default))).getD k default).toNat default).dt == y.fA with
          | true=>simp only [cond_true,List.append_nil]
          | false=>simp only [cond_false]
        · dsimp only
          rw [decide_eq_false (by omega),cond_false]
        · rfl
    · dsimp only
      rw [decide_eq_false (by omega),cond_false]
    · rw [List.nil_append]
      rfl
theorem u1 {α β:Type} {g:α→List β} {m:Nat}:∀ (l:List α),(∀ x,x∈l→(g x).length≤m)→(l.flatMap g).length≤l.length * m
  | [],_=>by simp
  | x :: r,h=>by
    have h1:=u1 r (fun y hy=>h y (by simp [hy]))
    have h2:=h x (by simp)
    rw [List.flatMap_cons,List.length_append,List.length_cons,Nat.succ_mul]
    omega
theorem Sx {r:ah} {forum:Int} {f:al} {day:Int} (hF:cm r f):(bV r forum f day).length≤67240:=by
  rw [wF]
  cases ht:(aC r forum f day).2 with
  | false=>simp
  | true =>
    rw [Bool.not_true,cond_false]
    have he:=(Dg r forum f day ht).1
    have hv:(aC r forum f day).1.view=aB f day:=by rw [he]
    have ho:=A5 f day
    have h40:=hF.2.1.1
    have hk:∀ part,(aj (aB f day) part).length≤40:=fun part=>by
      have h:=(nc (aB f day) part).1
      rw [ho.1] at h
      omega
    unfold zG
    rw [hv]
    refine Nat.le_trans (u1 (m:=1640) _ fun part _=>Nat.le_trans (u1 (m:=40) _ fun o _=>Nat.le_trans (u1 (m:=1) _ fun s _=>?_) ?_) ?_) ?_
    · unfold nZ
      cases (aK (aC r forum f day).1 o s (aj (aB f day) part) (aQ r forum f day)).1 == 0||((aC r forum f day).1.view.now.af.getD s.toNat default).dt == o.fA <;> simp
    · have h:=(rQ (aB f day) part o.sign (aj (aB f day) part)).1
      have h2:=mE f day
      rw [ho.2.1] at h
      omega
    · have h:=BM (aC r forum f day).1 (aj (aB f day) part)
      have h2:=hk part
      omega
    · have h:=ho.2.2.2.2
      omega
/-- how many links lie from one signature to Td -/
def yf (links:List Int) (lo hi:Int):Nat:=(links.filter fun l=>decide (l≤hi)&&decide (l≥lo)).length
def EM (links:List Int) (hi:Int):Nat:=(links.filter fun l=>decide (l≤hi)).length
theorem U7 (links:List Int) (lo hi:Int) {i:Nat} (h:i < links.length):yf (links.take (i+1)) lo hi=yf (links.take i) lo hi+(bif decide (links.getD i default≤hi)&&decide (links.getD i default≥lo) then 1 else 0):=by
  unfold yf
  rw [List.take_succ_eq_append_getElem h,List.filter_append,List.length_append,show links.getD i default=links[i] by simp [List.getD,h]]
  congr 1
  cases hc:decide (links[i]≤hi)&&decide (links[i]≥lo) with
  | true=>rw [List.filter_cons_of_pos (by simpa using hc)]; rfl
  | false=>rw [List.filter_cons_of_neg (by simpa using hc)]; rfl
theorem U8 (links:List Int) (hi:Int) {i:Nat} (h:i < links.length):EM (links.take (i+1)) hi=EM (links.take i) hi+(bif decide (links.getD i default≤hi) then 1 else 0):=by
  unfold EM
  rw [List.take_succ_eq_append_getElem h,List.filter_append,List.length_append,show links.getD i default=links[i] by simp [List.getD,h]]
  congr 1
  cases hc:decide (links[i]≤hi) with
  | true=>rw [List.filter_cons_of_pos (by simpa using hc)]; rfl
  | false=>rw [List.filter_cons_of_neg (by simpa using hc)]; rfl
theorem Y7 (links:List Int) (lo hi:Int):yf links lo hi≤links.length:=List.length_filter_le ..
theorem Y8 (links:List Int) (hi:Int):EM links hi≤links.length:=List.length_filter_le ..
def mc (c:eu):Bool:=(c.due != (-1))&&decide (c.view.day≥c.due)
theorem Du (c:eu) (o:kd) (sign:Int) (links:List Int) (eff:List cC) (hl:links.length≤1000000):aK c o sign links eff =
    bif (c.view.now.af.getD (aw c.view sign).toNat default).kind == 1 then (bif !(mc c) then (0,0) else (eK o.state (eff.getD sign.toNat default).binds,0)) else
    bif ((!(mc c))&&(!(cD c.view.now.aA)))||(!((eff.getD (aw c.view sign).toNat default).eI)) then (0,0) else
    (eK (eK o.state (eff.getD sign.toNat default).binds) (ij c.r c.forum c.view.all (aw c.view sign) c.view.day).all,
      bif !(bD links (aw c.view sign)) then (1+(EM links o.sign:Int)) else (yf links (aw c.view sign) o.sign:Int)):=by
  unfold aK il
  dsimp +instances only [Sk.dh,Sk.gd,Sk.iY,Sk.eQ,Sk.iE,Sk.lT,Sk.cO,gm.xP,kk,kp,bg.pn,bg.Pn,bg.AY,sj,qI,jH,aJ,qL]
  have acG:∀ d:(Int × Int) ⊕ (Int × Int),iter (fun i5:Int × Int × Nat=>bif decide (((i5.2.2:Nat):Int) < ((links.length:Nat):Int)) then
      (gH (bif decide ((links.getD i5.2.2 default)≤o.sign) then (Sum.inr (au (i5.2.1+1)):(((Int × Int) ⊕ (Int × Int)) ⊕ (Int × Int × Nat)) ⊕ Int) else Sum.inr i5.2.1) fun b6=>bif (decide ((links.getD i5.2.2 default)≤o.sign))&&(decide ((links.getD i5.2.2 default)≥aw c.view sign)) then Sum.inr (au (i5.1+1),b6,i5.2.2+1) else Sum.inr (i5.1,b6,i5.2.2+1))
      else Sum.inl (Sum.inr (i5.1,i5.2.1))) d (links.length - 0+1) (0,1,0)=Sum.inr ((yf links (aw c.view sign) o.sign:Int),1+(EM links o.sign:Int)):=by
    intro d
    refine (Ae links.length (fun n=>((yf (links.take n) (aw c.view sign) o.sign:Int),1+(EM (links.take n) o.sign:Int))) (fun s i=>(s.1,s.2,i)) (fun s=>Sum.inr s) (fun i hi=>?_) ?_ (m:=links.length - 0+1) (by omega)).trans ?_
    · dsimp only
      rw [decide_eq_true (by omega),cond_true,U7 links _ _ hi,U8 links _ hi]
      have h1:=Y7 (links.take i) (aw c.view sign) o.sign
      have h2:=Y8 (links.take i) o.sign
      have h3:(links.take i).length≤links.length:=by rw [List.length_take]; exact Nat.min_le_right _ _
      rw [aG (n:=(yf (links.take i) (aw c.view sign) o.sign:Int)+1) (by omega) (by omega),aG (n:=1+(EM (links.take i) o.sign:Int)+1) (by omega) (by omega)]
      cases decide (links.getD i default≤o.sign) with
      | false=>simp [gH]
      | true =>
        cases decide (links.getD i default≥aw c.view sign) with
        | false=>simp [gH]; omega
        | true=>simp [gH]; omega
    · dsimp only
      rw [decide_eq_false (by omega),cond_false]
    · rw [List.take_length]
  cases (c.view.now.af.getD (aw c.view sign).toNat default).kind == 1 with
  | true=>rfl
  | false =>
    simp only [cond_false]
    show (bif ((!(mc c))&&(!(cD c.view.now.aA)))||(!((eff.getD (aw c.view sign).toNat default).eI)) then (0,0) else _)=_
    cases ((!(mc c))&&(!(cD c.view.now.aA)))||(!((eff.getD (aw c.view sign).toNat default).eI)) with
    | true=>rfl
    | false =>
      simp only [cond_false]
      refine (congrArg (fun q=>gH q _) (acG _)).trans ?_
      show gH (bif !(bD links (aw c.view sign)) then Sum.inr (1+(EM links o.sign:Int)) else Sum.inr (yf links (aw c.view sign) o.sign:Int)) _=_
      cases bD links (aw c.view sign) <;> rfl
theorem Jp (a b:Int):eK a b=0∨eK a b=1∨eK a b=2:=by
  have e:eK a b=bif (a == 0)||(b == 0) then 0 else bif (a == 2)||(b == 2) then 2 else 1:=by kernel_rfl
  rw [e]
  cases (a == 0)||(b == 0) <;> cases (a == 2)||(b == 2) <;> simp
theorem U9 (c:eu) (o:kd) (sign:Int) (links:List Int) (eff:List cC) (hl:links.length≤1000000):(aK c o sign links eff).1=0∨(aK c o sign links eff).1=1∨(aK c o sign links eff).1=2:=by
  rw [Du c o sign links eff hl]
  cases (c.view.now.af.getD (aw c.view sign).toNat default).kind == 1 with
  | true =>
    cases mc c with
    | false=>exact .inl rfl
    | true=>exact Jp _ _
  | false =>
    rw [cond_false]
    cases ((!(mc c))&&(!(cD c.view.now.aA)))||(!((eff.getD (aw c.view sign).toNat default).eI)) with
    | true=>exact .inl rfl
    | false=>exact Jp _ _
theorem BT {r:ah} {forum:Int} {f:al} {day:Int} (h:(aC r forum f day).2=true):(aC r forum f day).1=⟨aB f day,r,forum,cb r forum f day⟩:=(Dg r forum f day h).1
theorem rS (f:al) (day:Int):(aB f day).all=f:=by rw [Ag]
theorem iu (f:al) (day:Int):(aB f day).now=ai f day:=by rw [Ag]
theorem Jq (f:al) (day:Int):(aB f day).day=day:=by rw [Ag]
/-- where a lu comes from -/
structure aa0 (r:ah) (forum:Int) (f:al) (day:Int) (c:Claim) (part:Int) (o:kd) (sign:Int):Prop where
  lead:part∈(aB f day).lead
  own:o∈bn (aC r forum f day).1 (aj (aB f day) part)
  li:sign∈aZ (aB f day) part o.sign (aj (aB f day) part)
  st:(aK (aC r forum f day).1 o sign (aj (aB f day) part) (aQ r forum f day)).1≠0
  ne:((ai f day).af.getD sign.toNat default).dt≠o.fA
  eq:c = { aF:=((ai f day).af.getD sign.toNat default).dt,ak:=o.fA,part:=part,sign:=sign,cz:=o.sign,dR:=(aK (aC r forum f day).1 o sign (aj (aB f day) part) (aQ r forum f day)).2,sum:=(gj r forum f sign day).rest,az:=f.aR.az,state:=(aK (aC r forum f day).1 o sign (aj (aB f day) part) (aQ r forum f day)).1 }
theorem u7 {r:ah} {forum:Int} {f:al} {day:Int} {c:Claim} (h:c∈bV r forum f day):((aC r forum f day).1=⟨aB f day,r,forum,cb r forum f day⟩)∧∃ part o sign,aa0 r forum f day c part o sign:=by
  rw [wF] at h
  cases ht:(aC r forum f day).2 with
  | false=>rw [ht] at h; cases h
  | true =>
    rw [ht,Bool.not_true,cond_false] at h
    have he:=BT ht
    refine ⟨he,?_⟩
    unfold zG at h
    have hv:(aC r forum f day).1.view=aB f day:=by rw [he]
    rw [hv] at h
    obtain ⟨part,hp,h⟩:=List.mem_flatMap.1 h
    obtain ⟨o,ho,h⟩:=List.mem_flatMap.1 h
    obtain ⟨sign,hs,h⟩:=List.mem_flatMap.1 h
    unfold nZ at h
    rw [hv,iu] at h
    cases hc:(aK (aC r forum f day).1 o sign (aj (aB f day) part) (aQ r forum f day)).1 == 0||((ai f day).af.getD sign.toNat default).dt == o.fA with
    | true=>rw [hc] at h; cases h
    | false =>
      rw [hc,cond_false,List.mem_singleton] at h
      simp only [Bool.or_eq_false_iff,beq_eq_false_iff_ne,ne_eq] at hc
      exact ⟨part,o,sign,hp,ho,hs,hc.1,hc.2,h⟩
theorem EN {f:al} {day part:Int}:(aj (aB f day) part).length≤f.af.length:=by
  have:=(nc (aB f day) part).1
  rwa [rS] at this
theorem Qp {r:ah} {forum:Int} {f:al} {day:Int} {c:Claim} (hF:cm r f) (hR:r.dj) (h:c∈bV r forum f day) :
    (0≤c.sign∧c.sign < f.af.length)∧(-1≤c.cz∧c.cz < f.af.length)∧c.aF=(f.af.getD c.sign.toNat default).dt∧c.ak=(if 0≤c.cz then (f.af.getD c.cz.toNat default).cj else f.aR.kq) ∧
      c.aF≠c.ak∧(c.state=1∨c.state=2)∧jJ c.sum∧c.az=f.aR.az:=by
  obtain ⟨he,part,o,sign,k⟩:=u7 h
  have hlen:=mE f day
  have hl:=BN k.li
  have hm:=rR hl.2
  rw [iu] at hm
  have hll:(aj (aB f day) part).length≤1000000:=by have:=EN (f:=f) (day:=day) (part:=part); have:=hF.2.1.1; omega
  have hs:=U9 (aC r forum f day).1 o sign (aj (aB f day) part) (aQ r forum f day) hll
  have ki:=k.st
  have ho:=(I8 k.own).1
  have hvn:(aC r forum f day).1.view.now=ai f day:=by rw [he]; exact iu f day
  rw [hvn,PY] at ho
  have Xv:(o.sign = -1∧o.fA=f.aR.kq)∨(0≤o.sign∧o.sign < f.af.length∧o.fA=(f.af.getD o.sign.toNat default).cj):=by
    rcases ho with ho | ⟨h1,h2⟩
    · exact .inl ho
    · have hk:=EJ h1
      rw [rS,Jq] at hk
      have Q1:=hF.ZR hk.1 hk.2.1 hk.2.2.2.2.1
      rw [vY f day _ (by omega)] at h2
      exact .inr ⟨hk.1,hk.2.1,h2⟩
  have DI:gj r forum f sign day=gj r forum f sign day:=rfl
  have aeu:=wD r forum f sign day ⟨hF,hR⟩
  obtain rfl:=k.eq
  refine ⟨⟨hm.1,by have:=hm.2.1; show sign < _; omega⟩,?_,?_,?_,k.ne,?_,aeu,rfl⟩
  · show -1≤o.sign∧o.sign < _
    rcases Xv with Xv | Xv <;> omega
  · show ((ai f day).af.getD sign.toNat default).dt=_
    rw [vY f day _ (by omega)]
  · show o.fA=if 0≤o.sign then (f.af.getD o.sign.toNat default).cj else f.aR.kq
    rcases Xv with Xv | Xv
    · rw [if_neg (by omega)]; exact Xv.2
    · rw [if_pos Xv.1]; exact Xv.2.2
  · show (aK _ _ _ _ _).1=1∨_
    rcases hs with hs | hs | hs
    · exact absurd hs ki
    · exact .inl hs
    · exact .inr hs
theorem Qq (r:ah) (forum:Int) (f:al) (day:Int):(bV r forum f day).Pairwise (fun a b=>¬ (a.part=b.part∧a.sign=b.sign∧a.cz=b.cz)):=by
  rw [wF]
  cases ht:(aC r forum f day).2 with
  | false=>exact List.Pairwise.nil
  | true =>
    rw [Bool.not_true,cond_false]
    have he:=BT ht
    have hv:(aC r forum f day).1.view=aB f day:=by rw [he]
    have key:∀ part o sign c,c∈nZ r forum f day (aC r forum f day).1 (aQ r forum f day) (aj (aB f day) part) part o sign→c.part=part∧c.cz=o.sign∧c.sign=sign:=fun part o sign c h=>by
      unfold nZ at h
      cases hc:(aK (aC r forum f day).1 o sign (aj (aB f day) part) (aQ r forum f day)).1 == 0||((aC r forum f day).1.view.now.af.getD sign.toNat default).dt == o.fA with
      | true=>rw [hc] at h; cases h
      | false=>rw [hc,cond_false,List.mem_singleton] at h; subst h; exact ⟨rfl,rfl,rfl⟩
    have Y9:∀ part o c,c∈((aZ (aB f day) part o.sign (aj (aB f day) part)).flatMap fun sign=>nZ r forum f day (aC r forum f day).1 (aQ r forum f day) (aj (aB f day) part) part o sign)→c.part=part∧c.cz=o.sign:=fun part o c h=>by
      obtain ⟨s,_,h⟩:=List.mem_flatMap.1 h
      exact ⟨(key _ _ _ _ h).1,(key _ _ _ _ h).2.1⟩
    unfold zG
    rw [hv,List.pairwise_flatMap]
    refine ⟨fun part _=>?_,(Qj f day).imp (fun {a b} Zv x hx y hy h=>?_)⟩
    · rw [List.pairwise_flatMap]
      refine ⟨fun o _=>?_,(Ni (fun y hy=>(EJ hy).1) (Nh _ _)).imp (fun {a b} Zv x hx y hy h=>?_)⟩
      · rw [List.pairwise_flatMap]
        refine ⟨fun s _=>?_,(KQ _ _ _ _).imp (fun {a b} Zv x hx y hy h=>?_)⟩
        · unfold nZ
          cases (aK (aC r forum f day).1 o s (aj (aB f day) part) (aQ r forum f day)).1 == 0||((aC r forum f day).1.view.now.af.getD s.toNat default).dt == o.fA <;> simp
        · have h1:=(key _ _ _ _ hx).2.2
          have h2:=(key _ _ _ _ hy).2.2
          omega
      · have h1:=(Y9 _ _ _ hx).2
        have h2:=(Y9 _ _ _ hy).2
        omega
    · obtain ⟨o,_,hx⟩:=List.mem_flatMap.1 hx
      obtain ⟨o',_,hy⟩:=List.mem_flatMap.1 hy
      have h1:=(Y9 _ _ _ hx).1
      have h2:=(Y9 _ _ _ hy).1
      omega
/-- an act VE is a adb -/
def Np (g:al) (a:bh):Prop:=a.kind=6∧0≤a.at_∧a.at_ < (g.af.length:Int)
def TN (g:al) (st:Bool) (cj:Int):Prop:=st=true↔∀ q,q < g.af.length→(g.af.getD q default).dt≠cj
/-- Oh aev after Oh first k aA -/
inductive AP (g:al) (l0:List Claim):Nat→List Claim→Prop
  | zero:AP g l0 0 l0
  | skip {k:Nat} {l:List Claim}:AP g l0 k l→k < g.aA.length→¬ Np g (g.aA.getD k default)→AP g l0 (k+1) l
  | yk {k:Nat} {l out:List Claim} {st:Bool}:AP g l0 k l→k < g.aA.length→Np g (g.aA.getD k default)→TN g st (g.aA.getD k default).cj→xa l (g.aA.getD k default) st out→AP g l0 (k+1) out
theorem Xw {x y:Claim} (h:yP x y):N7 x=N7 y:=by simp only [N7,h.1.1,h.1.2.2.1,h.1.2.2.2.1]
theorem AP.N7 {g:al} {l0 l:List Claim} {k:Nat} (h:AP g l0 k l):∀ x∈l,N7 x∈l0.map N7:=by
  induction h with
  | zero=>exact fun x hx=>List.mem_map.2 ⟨x,hx,rfl⟩
  | skip _ _ _ ih=>exact ih
  | @yk k l out st h _ _ _ ha ih =>
    intro x hx
    obtain ⟨i,hi,rfl⟩:=List.getElem_of_mem hx
    have e:out[i]=out.getD i default:=by simp [List.getD,hi]
    rw [e]
    by_cases h1:i < l.length
    · rw [Xw (ha.old i h1).1]
      exact ih _ (j1 h1)
    · obtain ⟨-,-,-,x,hx,e1,e2,e3,-⟩:=ha.new i (by omega) hi
      have:=ih x hx
      rwa [show Go.Proofs.YtgmnlkccjlnnbaaGreatDoor.N7 (out.getD i default)=Go.Proofs.YtgmnlkccjlnnbaaGreatDoor.N7 x by simp only [Go.Proofs.YtgmnlkccjlnnbaaGreatDoor.N7,e1,e2,e3]]
theorem AP.count {g:al} {l0 l:List Claim} {k:Nat} (h:AP g l0 k l):l.length≤l0.length+k * l0.length∧k≤g.aA.length:=by
  induction h with
  | zero=>simp
  | skip _ _ _ ih=>exact ⟨by rw [Nat.succ_mul]; omega,by omega⟩
  | yk h _ _ _ ha ih =>
    have:=ha.few _ h.N7
    rw [List.length_map] at this
    exact ⟨by rw [Nat.succ_mul]; omega,by omega⟩
theorem Jr {g:al} {x:Bool} {t:Int} {p:Sign→Bool} (hp:∀ s,p s=true↔s.dt=t) (h:x=true↔∃ q,q < g.af.length∧p (g.af.getD q default)=true):TN g (!x) t:=by
  constructor
  · intro hx q hq e
    have:=h.2 ⟨q,hq,(hp _).2 e⟩
    rw [this] at hx
    cases hx
  · intro hq
    cases hx:x with
    | false=>rfl
    | true =>
      obtain ⟨q,h1,h2⟩:=h.1 hx
      exact absurd ((hp _).1 h2) (hq q h1)
theorem TP {g:al} {a:bh} (h:((a.kind != 6)||decide (a.at_ < 0)||decide (a.at_≥((g.af.length:Nat):Int)))=true):¬ Np g a:=by
  rintro ⟨h1,h2,h3⟩
  simp only [Bool.or_eq_true,bne_iff_ne,decide_eq_true_eq] at h
  rcases h with (h | h) | h
  · exact h h1
  · omega
  · omega
theorem Sy {g:al} {a:bh} (h:((a.kind != 6)||decide (a.at_ < 0)||decide (a.at_≥((g.af.length:Nat):Int)))=false):Np g a:=by
  simp only [Bool.or_eq_false_iff,bne_eq_false_iff_eq,decide_eq_false_iff_not] at h
  exact ⟨h.1.1,by omega,by omega⟩
def ov (r:ah) (forum:Int) (f:al) (day:Int):Sk ((List Claim) × Unit) :=
 .r 1 ((ch f day).c) fun x1 =>
 .r 2 ((vA 29 r forum f day).c) fun x2 =>
 .r 3 (.o [.ru (mkM dI)]) fun _ =>
 .cl 30 ([]:List (Int × Int)) <|
 .bind true (fun b3=>AP x1 x2 x1.aA.length b3)
 (.loop (default:Sum ((List Claim) × Unit) ((List Claim))) (fun i4=>i4.2≤x1.aA.length∧AP x1 x2 i4.2 i4.1) (fun i4=>x1.aA.length - i4.2) ((x2,0):(List Claim) × Nat)
 (fun (i4:(List Claim) × Nat)=>⟨[(11,ow 100006 i4.1),(34,iv ((i4.2:Nat):Int))],[(100006,bO 50 9 Claim.cells i4.1)]⟩) fun i4 =>
 .lt 32 0 i4.2 x1.aA.length
 (.bind true (fun b5=>AP x1 x2 (i4.2+1) b5)
 (.r 6 (.p (bG ((i4.2:Nat):Int) x1.aA.length)) fun _ =>
 .br (((((x1.aA.getD i4.2 default).kind) != 6)||(decide (((x1.aA.getD i4.2 default).at_) < 0)))||(decide (((x1.aA.getD i4.2 default).at_)≥((x1.af.length:Nat):Int))))
 (.fin (.inr i4.1))
 (.r 8 ((ga x1.af (x1.aA.getD i4.2 default)).c) fun x6 =>
 .fz 100006 <|
 .r 9 (.aq (.p (bG ((x1.aA.getD i4.2 default).at_) x1.af.length)) ((sM 70 i4.1 (x1.aA.getD i4.2 default) ((x1.af.getD (((x1.aA.getD i4.2 default).at_).toNat) default).kind) (!x6)).c)) fun x7 =>
 .r 10 (.o [.ru (mkM dB)]) fun _ =>
 .bt
 (.loop (default:Sum (Sum (Sum (Sum ((List Claim) × Unit) ((List Claim))) ((List Claim) × Nat)) ((List Claim))) (Int × (List (Int × Bool)))) (fun i9=>i9.1≤x7.2.length) (fun i9=>x7.2.length - i9.1) ((0,([]:List (Int × Bool))):Nat × (List (Int × Bool)))
 (fun (i9:Nat × (List (Int × Bool)))=>⟨[(76,iv ((i9.1:Nat):Int))],[(73,mpM dB i9.2)]⟩) fun i9 =>
 .lt 17 0 i9.1 x7.2.length
 (.r 13 (.p (bG ((i9.1:Nat):Int) x7.2.length)) fun _ =>
 .r 14 (.aq (.t (E4 dB i9.2)) (.o [.ru (YN dB i9.2 ((x7.2.getD i9.1 default).ak) true)])) fun _ =>
 .r 15 .z fun _ =>
 .wi 76 (au (((i9.1:Nat):Int)+1)) ((i9.1+1:Nat):Int) <|
 .fin (.inr (i9.1+1,sH i9.2 ((x7.2.getD i9.1 default).ak) true)))
 (.fin (.inl (.inr (((i9.1:Nat):Int),i9.2)))))
 (fun (b8:Int × (List (Int × Bool)))=>⟨[(76,iv b8.1)],[(73,mpM dB b8.2)]⟩) fun b8 =>
 .bt
 (.mr b8.2.length (fun _=>True) (():Unit)
 (fun g11 s13=>⟨[],[(85,.it 73 b8.2.length s13)]⟩)
 (fun g15=>⟨[],[]⟩)
 (fun g11 i12 =>
 .JQ <|
 .r 18 (.p (i12 < b8.2.length)) fun _ =>
 .op 30 fun m14 =>
 .r 19 (.aq (.aq (.t (E4 dI m14)) (.o [.cast 94 (getM dI m14 ((b8.2.getD i12 default).1) (0:Int))])) (.aq (.t (E4 dI m14)) (.o [.ru (YN dI m14 ((b8.2.getD i12 default).1) (bL 1099511627776 (au ((Cu m14 ((b8.2.getD i12 default).1) (0:Int))+((x1.aA.getD i4.2 default).sum)))))]))) fun _ =>
 .cl 30 (sH m14 ((b8.2.getD i12 default).1) (bL 1099511627776 (au ((Cu m14 ((b8.2.getD i12 default).1) (0:Int))+((x1.aA.getD i4.2 default).sum))))) <|
 .fin ()) fun g15 =>
 .JR <|
 .fin (.inr ()))
 (fun (_:Unit)=>⟨[(85,.any)],[]⟩) fun _ =>
 .fin (.inr x7.1)))
 (fun (b5:(List Claim))=>⟨[(11,ow 100008 b5)],[(100008,bO 50 9 Claim.cells b5)]⟩) fun b5 =>
 .nx 21 34 i4.2 (b5,i4.2+1))
 (.fin (.inl (.inr i4.1))))
 (fun (b3:(List Claim))=>⟨[(11,ow 100004 b3)],[(100004,bO 50 9 Claim.cells b3)]⟩) fun b3 =>
 .fin (b3,())
def Ak r forum f day:=(ov r forum f day).val
theorem Qr (r:ah) (forum:Int) (f:al) (day:Int):(ov r forum f day).cZ (fun (x:(List Claim) × Unit)=>AP (ai f day) (bV r forum f day) (ai f day).aA.length x.1):=by
  refine Sk.bp _ ?_
  unfold ov
  simp only [Sk.cU,Sk.aO,reduceCtorEq,ON,kk,kp,vA,sM,ch,ga,maxLen]
  intro x hx _ x1 JP _
  refine ⟨⟨⟨Nat.zero_le _,.zero⟩,fun i hi=>⟨fun hc=>⟨fun _=>⟨fun hs=>?_,fun hs x4 _ h4 x5 _ h5 _=>⟨⟨Nat.zero_le _,fun j hj DK _ _ _=>?_⟩,fun b b1 _=>?_⟩⟩,fun b _ hb _=>?_⟩,fun hc=>?_⟩⟩,fun b hb=>?_⟩
  all_goals try simp only [LN] at hc
  · exact hi.2.skip (by omega) (TP hs)
  · simp only [LN] at DK
    omega
  · exact hi.2.yk (by omega) (Sy hs) (Jr (p:=fun s=>gw s (x.aA.getD i.2 default)) (fun s=>by show gw s _=true↔_; rw [rr,beq_iff_eq]) h4) h5
  · exact ⟨⟨by omega,hb⟩,by omega⟩
  · have e:i.2=x.aA.length:=by omega
    rw [← e]
    exact hi.2
  · subst hx JP
    exact hb

theorem Nq (r:ah) (forum:Int) (f:al) (day:Int):(fun (x:(List Claim) × Unit)=>AP (ai f day) (bV r forum f day) (ai f day).aA.length x.1) (Ak r forum f day):=have h:=Sk.de _ (Qr r forum f day); h
theorem Sz (r:ah) (forum:Int) (f:al) (day:Int) (hF:cm r f) (bM:f.Small) (cu:r.cG) (bN:r.Small) (kL:r.iH) (jI:r.dj):(ov r forum f day).bz (fun _=>True):=by
  refine Sk.aX _ ?_
  unfold ov
  simp only [Sk.km,Sk.aO,reduceCtorEq,ON,kk,kp,Sk.cZ,vA,sM,ch,ga,maxLen]
  refine ⟨bM,fun x hx hl=>⟨⟨hF,bM,cu,bN,kL,jI⟩,fun x1 JP _=>⟨⟨Nat.zero_le _,.zero⟩,fun i hi Vt=>⟨fun hc=>⟨⟨?_,fun _=>⟨fun hs=>?_,fun hs x4 _ h4=>⟨⟨?_,?_⟩,fun x5 _ h5 _=>⟨⟨Nat.zero_le _,fun j hj hm2 DK=>?_⟩,fun b=>⟨fun _ _ h=>h,fun b1 _=>?_⟩⟩⟩⟩⟩,fun b _ hb _=>?_⟩,fun hc=>?_⟩⟩⟩⟩
  all_goals try simp only [LN] at hc
  · exact ⟨by omega,by omega⟩
  · exact hi.2.skip (by omega) (TP hs)
  · exact (Sy hs).2
  · have h1:=hi.2.count.1
    have h2:x1.length≤67240:=by rw [JP]; exact Sx hF
    have h3:=hF.2.1.2.2.2.1
    have h4:=Nat.mul_le_mul (show i.2≤100 by omega) h2
    omega
  · simp only [LN] at DK
    exact ⟨⟨by omega,by omega⟩,fun _ _ _=>⟨(aG (by omega) (by omega)).trans (by omega),by omega,by omega⟩⟩
  · exact hi.2.yk (by omega) (Sy hs) (Jr (p:=fun s=>gw s (x.aA.getD i.2 default)) (fun s=>by show gw s _=true↔_; rw [rr,beq_iff_eq]) h4) h5
  · exact ⟨(aG (by omega) (by omega)).trans (by omega),⟨by omega,hb⟩,by omega⟩
  · have e:i.2=x.aA.length:=by omega
    rw [← e]
    exact hi.2

theorem Qs (r:ah) (forum:Int) (f:al) (day:Int) (hF:cm r f) (bM:f.Small) (cu:r.cG) (bN:r.Small) (kL:r.iH) (jI:r.dj):gr Tryz.prog 18 [av r.cells,iv forum,av f.cells,iv day] [] (.fL [ow 777777 (Ak r forum f day).1,.any]) [(777777,bO 50 9 Claim.cells (Ak r forum f day).1)] :=
  gr.sk tok mixed (fun x=>.fL [ow 777777 x.1,.any]) (fun x=>[(777777,bO 50 9 Claim.cells x.1)]) Tryz.func18 rfl (by kernel_rfl) 3000 (ov r forum f day) (by kernel_rfl) (Sz r forum f day hF bM cu bN kL jI)
def BU (κ:Nat) (r:ah) (forum:Int) (f:al) (day:Int):iX ((List Claim) × Unit):=⟨Tryz.prog,18,[av r.cells,iv forum,av f.cells,iv day],fun x=>.fL [ow κ x.1,.any],fun x=>[(κ,bO 50 9 Claim.cells x.1)],Ak r forum f day,(cm r f)∧(f.Small)∧(r.cG)∧(r.Small)∧(r.iH)∧(r.dj),fun h=>gr.WJ κ rfl (Qs r forum f day h.1 h.2.1 h.2.2.1 h.2.2.2.1 h.2.2.2.2.1 h.2.2.2.2.2),fun (x:(List Claim) × Unit)=>AP (ai f day) (bV r forum f day) (ai f day).aA.length x.1,Nq r forum f day⟩
def nF (r:ah) (forum:Int) (f:al) (day:Int):Sk ((List Claim)) :=
 .r 1 ((BU 16 r forum f day).c) fun x1 =>
 .fin x1.1
def oz r forum f day:=(nF r forum f day).val
theorem Jt (r:ah) (forum:Int) (f:al) (day:Int):(nF r forum f day).cZ (fun (x:(List Claim))=>AP (ai f day) (bV r forum f day) (ai f day).aA.length x):=by
  unfold nF
  try simp only [BU]
  exact DB

theorem KZ (r:ah) (forum:Int) (f:al) (day:Int) (hF:cm r f) (bM:f.Small) (cu:r.cG) (bN:r.Small) (kL:r.iH) (jI:r.dj):(nF r forum f day).bz (fun _=>True):=by
  unfold nF
  try simp only [BU]
  exact oh

def s6 r forum f day:=kp tok mixed Tryz.func8 [av r.cells,iv forum,av f.cells,iv day] (fun x=>lv Claim.cells x) false (oz r forum f day) (u6 (KZ r forum f day)) (Jt r forum f day)
end
end Go.Proofs.YtgmnlkccjlnnbaaGreatDoor
