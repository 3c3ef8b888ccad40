/- Functions, as sketches. -/
import Derived.Test.YtilbddpghnnmhaaGreatDoorSa12
namespace Go.Proofs.YtilbddpghnnmhaaGreatDoor
noncomputable section
open Go Go.Av
set_option linter.unusedSimpArgs false
set_option linter.unusedVariables false
set_option maxHeartbeats 1000000
set_option maxRecDepth 100000
/-- half a division: the divisor in two halves,the first one great; a digit follows -/
def HY (y1 y0 u d:Int):Prop:=(2147483648≤y1∧y1 < 4294967296)∧(0≤y0∧y0 < 4294967296)∧(0≤u∧u < y1 * 4294967296+y0)∧0≤d∧d < 4294967296
/-- a quotient that may be too great -/
def HI (y1 y0 u d q r:Int):Prop:=(0≤q∧q < 18446744073709551616)∧q * y1+r=u∧(0≤r∧r < 4294967296)∧u * 4294967296+d < 4294967296 * (q * y1)+4294967296 * y1+q * y0+y0
/-- the quotient -/
def HQ (y1 y0 u d q:Int):Prop:=(0≤q∧q < 4294967296)∧4294967296 * (q * y1)+q * y0≤u * 4294967296+d∧u * 4294967296+d < 4294967296 * (q * y1)+4294967296 * y1+q * y0+y0
theorem Fm {y1 y0 u d:Int} (h:HY y1 y0 u d):HI y1 y0 u d (IntKind.u64.wrap (u.tdiv y1)) (IntKind.u64.wrap (u - IntKind.u64.wrap (IntKind.u64.wrap (u.tdiv y1) * y1))):=by
  obtain ⟨h1,h2,h3,h4⟩:=h
  have e:u.tdiv y1=u / y1:=Int.tdiv_eq_ediv_of_nonneg h3.1
  have q0:0≤u / y1:=Int.ediv_nonneg h3.1 (by omega)
  have q1:u / y1≤u:=Int.ediv_le_self _ h3.1
  have m1:=Int.mul_ediv_add_emod u y1
  have m2:=Int.emod_nonneg u (b:=y1) (by omega)
  have m3:=Int.emod_lt_of_pos u (b:=y1) (by omega)
  rw [e,qI q0 (by omega)]
  rw [Int.mul_comm y1] at m1
  rw [qI (n:=u / y1 * y1) (Int.mul_nonneg q0 (by omega)) (by omega),qI (by omega) (by omega)]
  have:=Int.mul_nonneg q0 h2.1
  refine ⟨⟨q0,by omega⟩,by omega,⟨by omega,by omega⟩,by omega⟩
theorem zjf {y1 y0 u d q r:Int} (h:HY y1 y0 u d) (hi:HI y1 y0 u d q r):(decide (q≥4294967296)||decide (IntKind.u64.wrap (q * y0) > IntKind.u64.wrap (IntKind.u64.wrap (4294967296 * r)+d)))=decide (q≥4294967296∨q * y0 > 4294967296 * r+d):=by
  obtain ⟨h1,h2,h3,h4⟩:=h
  obtain ⟨i1,i2,i3,i4⟩:=hi
  rw [qI (n:=4294967296 * r) (by omega) (by omega),qI (n:=4294967296 * r+d) (by omega) (by omega)]
  by_cases c:q≥4294967296
  · simp [c]
  · have a:q * y0≤4294967295 * y0:=Int.mul_le_mul_of_nonneg_right (by omega) h2.1
    rw [qI (n:=q * y0) (Int.mul_nonneg i1.1 h2.1) (by omega)]
    simp [c]
theorem Fe {y1 y0 u d q r:Int} (h:HY y1 y0 u d) (hi:HI y1 y0 u d q r) (hc:(decide (q≥4294967296)||decide (IntKind.u64.wrap (q * y0) > IntKind.u64.wrap (IntKind.u64.wrap (4294967296 * r)+d)))=true) :
    (IntKind.u64.wrap (q - 1)).toNat < q.toNat∧(IntKind.u64.wrap (r+y1)≥4294967296→HQ y1 y0 u d (IntKind.u64.wrap (q - 1)))∧(IntKind.u64.wrap (r+y1) < 4294967296→HI y1 y0 u d (IntKind.u64.wrap (q - 1)) (IntKind.u64.wrap (r+y1))):=by
  rw [zjf h hi,decide_eq_true_eq] at hc
  obtain ⟨h1,h2,h3,h4⟩:=h
  obtain ⟨i1,i2,i3,i4⟩:=hi
  have hy:u * 4294967296+d < 4294967296 * (q * y1)+q * y0:=by
    rcases hc with c | c
    · have a:4294967296 * y1≤q * y1:=Int.mul_le_mul_of_nonneg_right c (by omega)
      have b:4294967296 * y0≤q * y0:=Int.mul_le_mul_of_nonneg_right c h2.1
      omega
    · omega
  have hq:1≤q:=by
    rcases Int.lt_or_le q 1 with c | c
    · obtain rfl:q=0:=by omega
      simp only [Int.zero_mul] at hy i2
      omega
    · exact c
  have e1:(q - 1) * y1=q * y1 - y1:=by rw [Int.sub_mul,Int.one_mul]
  have e0:(q - 1) * y0=q * y0 - y0:=by rw [Int.sub_mul,Int.one_mul]
  rw [qI (n:=q - 1) (by omega) (by omega),qI (n:=r+y1) (by omega) (by omega)]
  refine ⟨by omega,fun hr=>?_,fun hr=>?_⟩
  · have hB:q - 1 < 4294967296:=by
      rcases Int.lt_or_le (q - 1) 4294967296 with c | c
      · exact c
      · have a:4294967296 * y1≤(q - 1) * y1:=Int.mul_le_mul_of_nonneg_right c (by omega)
        omega
    have a:(q - 1) * y0≤4294967295 * y0:=Int.mul_le_mul_of_nonneg_right (by omega) h2.1
    refine ⟨⟨by omega,hB⟩,?_,?_⟩
    · rw [e1]; omega
    · rw [e1,e0]; omega
  · refine ⟨⟨by omega,by omega⟩,by rw [e1]; omega,⟨by omega,hr⟩,by rw [e1,e0]; omega⟩
theorem Fr {y1 y0 u d q r:Int} (h:HY y1 y0 u d) (hi:HI y1 y0 u d q r) (hc:(decide (q≥4294967296)||decide (IntKind.u64.wrap (q * y0) > IntKind.u64.wrap (IntKind.u64.wrap (4294967296 * r)+d)))=false):HQ y1 y0 u d q:=by
  rw [zjf h hi,decide_eq_false_iff_not] at hc
  obtain ⟨i1,i2,i3,i4⟩:=hi
  exact ⟨by omega,by omega,i4⟩
/-- what is left -/
theorem GW {y1 y0 u d q:Int} (h:HY y1 y0 u d) (hq:HQ y1 y0 u d q):IntKind.u64.wrap (IntKind.u64.wrap (IntKind.u64.wrap (u * 4294967296)+d) - IntKind.u64.wrap (q * (y1 * 4294967296+y0)))=u * 4294967296+d - q * (y1 * 4294967296+y0)∧0≤u * 4294967296+d - q * (y1 * 4294967296+y0)∧u * 4294967296+d - q * (y1 * 4294967296+y0) < y1 * 4294967296+y0:=by
  obtain ⟨h1,h2,h3,h4⟩:=h
  obtain ⟨i1,i2,i3⟩:=hq
  have e:q * (y1 * 4294967296+y0)=4294967296 * (q * y1)+q * y0:=by rw [Int.mul_add,← Int.mul_assoc,Int.mul_comm (q * y1)]
  refine ⟨?_,by omega,by omega⟩
  simp only [zha]
  omega
theorem zr3 {k:Nat} {q b:Int} (hq:0≤q) (hb:0≤b) (hb2:b < 2 ^ k) (ha:q * 2 ^ k+b < 18446744073709551616):orK .u64 (q * 2 ^ k) b=q * 2 ^ k+b:=by
  obtain ⟨q,rfl⟩:=Int.eq_ofNat_of_zero_le hq
  obtain ⟨b,rfl⟩:=Int.eq_ofNat_of_zero_le hb
  have e:((q:Int) * 2 ^ k)=((q * 2 ^ k:Nat):Int):=by simp
  have hb3:b < 2 ^ k:=by
    have e2:((2:Int) ^ k)=((2 ^ k:Nat):Int):=by simp
    rw [e2] at hb2
    exact_mod_cast hb2
  rw [e] at ha ⊢
  unfold orK
  have hlt:q * 2 ^ k+b < 18446744073709551616:=by omega
  have h1:(BitVec.ofInt IntKind.u64.bits ((q * 2 ^ k:Nat):Int) ||| BitVec.ofInt IntKind.u64.bits ((b:Nat):Int)).toNat=q * 2 ^ k+b:=by
    rw [BitVec.toNat_or,BitVec.ofInt_natCast,BitVec.ofInt_natCast,BitVec.toNat_ofNat,BitVec.toNat_ofNat]
    have hb:IntKind.u64.bits=64:=rfl
    rw [hb,Nat.mod_eq_of_lt (by omega),Nat.mod_eq_of_lt (by omega),← Nat.shiftLeft_eq,← Nat.shiftLeft_add_eq_or_of_lt hb3,Nat.shiftLeft_eq]
  rw [h1,qI (by omega) (by omega)]
  omega
theorem zeJ {a:Int} (h0:0≤a) (h1:a < 18446744073709551616):qg .u64 a 4294967295=a % 4294967296:=by
  obtain ⟨a,rfl⟩:=Int.eq_ofNat_of_zero_le h0
  unfold qg
  have h2:(BitVec.ofInt IntKind.u64.bits ((a:Nat):Int) &&& BitVec.ofInt IntKind.u64.bits 4294967295).toNat=a % 4294967296:=by
    have e:(4294967295:Int)=((4294967295:Nat):Int):=rfl
    rw [e,BitVec.toNat_and,BitVec.ofInt_natCast,BitVec.ofInt_natCast,BitVec.toNat_ofNat,BitVec.toNat_ofNat]
    have hb:IntKind.u64.bits=64:=rfl
    rw [hb,Nat.mod_eq_of_lt (by omega),Nat.mod_eq_of_lt (by omega)]
    exact Nat.and_two_pow_sub_one_eq_mod a 32
  rw [h2,qI (by omega) (by omega)]
  omega
/-- the parts of a division,made great -/
theorem zjL {hi lo y s:Int} (hy:0≤hi∧hi < y∧y < 18446744073709551616∧0≤lo∧lo < 18446744073709551616) (hs:0≤s∧s≤63∧9223372036854775808≤y * 2 ^ s.toNat∧y * 2 ^ s.toNat < 18446744073709551616) :
    ∃ U L:Int,orK .u64 (qD .u64 hi (IntKind.u64.wrap s)) (qa .u64 lo (IntKind.u64.wrap ((64:Int) - IntKind.u64.wrap s)))=U∧qD .u64 lo (IntKind.u64.wrap s)=L∧qD .u64 y (IntKind.u64.wrap s)=y * 2 ^ s.toNat ∧
      (0≤L∧L < 18446744073709551616)∧(0≤U∧U < y * 2 ^ s.toNat)∧(hi * 18446744073709551616+lo) * 2 ^ s.toNat=U * 18446744073709551616+L:=by
  obtain ⟨h1,h2,h3,h4,h5⟩:=hy
  obtain ⟨s1,s2,s3,s4⟩:=hs
  have ew:IntKind.u64.wrap s=s:=qI s1 (by omega)
  have ew2:IntKind.u64.wrap (64 - s)=64 - s:=qI (by omega) (by omega)
  rw [ew,ew2,zob (by omega),zob (by omega),zob (by omega),zcG .u64 (b:=64 - s) (by show 0≤64 - s∧64 - s≤64; omega)]
  generalize hp:(2:Int) ^ s.toNat=p at *
  have hP:(18446744073709551616:Int)=2 ^ (64 - s).toNat * p:=by rw [← hp,← Int.pow_add,show (64 - s).toNat+s.toNat=64 by omega]; rfl
  generalize hq:(2:Int) ^ (64 - s).toNat=P at *
  have p0:0 < p:=by rw [← hp]; exact Int.pow_pos (by omega)
  have P0:0 < P:=by rw [← hq]; exact Int.pow_pos (by omega)
  have hip:hi * p≤(y - 1) * p:=Int.mul_le_mul_of_nonneg_right (by omega) (by omega)
  have hip0:0≤hi * p:=Int.mul_nonneg h1 (by omega)
  have e1:(y - 1) * p=y * p - p:=by rw [Int.sub_mul,Int.one_mul]
  have b0:0≤lo / P:=Int.ediv_nonneg h4 (by omega)
  have b1:lo / P < p:=by
    rw [Int.ediv_lt_iff_lt_mul P0,Int.mul_comm]
    omega
  have eh:hi * p % 18446744073709551616=hi * p:=Int.emod_eq_of_lt hip0 (by omega)
  have ey:y * p % 18446744073709551616=y * p:=Int.emod_eq_of_lt (by omega) s4
  have el:lo * p / 18446744073709551616=lo / P:=by rw [hP]; exact Int.mul_ediv_mul_of_pos_left _ _ p0
  have hor:orK .u64 (hi * p) (lo / P)=hi * p+lo / P:=by
    rw [← hp]
    exact zr3 h1 b0 (by rw [hp]; exact b1) (by rw [hp]; omega)
  refine ⟨hi * p+lo / P,lo * p % 18446744073709551616,by rw [eh]; exact hor,rfl,ey,⟨by omega,by omega⟩,⟨by omega,by omega⟩,?_⟩
  have m:=Int.mul_ediv_add_emod (lo * p) 18446744073709551616
  rw [el] at m
  have e2:(hi * 18446744073709551616+lo) * p=hi * p * 18446744073709551616+lo * p:=by rw [Int.add_mul,Int.mul_right_comm]
  rw [e2]
  omega
/-- the whole division out of its halves -/
theorem zpD {N y p U L q1 q0:Int} (hy:0 < y) (hp:0 < p) (hY:9223372036854775808≤y * p∧y * p < 18446744073709551616) (hL:0≤L∧L < 18446744073709551616) (hU:0≤U∧U < y * p) (hN:N * p=U * 18446744073709551616+L)
    (h1:HQ (y * p / 4294967296) (y * p % 4294967296) U (L / 4294967296) q1)
    (h0:HQ (y * p / 4294967296) (y * p % 4294967296) (U * 4294967296+L / 4294967296 - q1 * (y * p)) (L % 4294967296) q0) :
    IntKind.u64.wrap (IntKind.u64.wrap (q1 * 4294967296)+q0)=N / y ∧
      ((U * 4294967296+L / 4294967296 - q1 * (y * p)) * 4294967296+L % 4294967296 - q0 * (y * p)) / p=N % y:=by
  have eY:y * p / 4294967296 * 4294967296+y * p % 4294967296=y * p:=by omega
  have hy1:HY (y * p / 4294967296) (y * p % 4294967296) U (L / 4294967296):=⟨⟨by omega,by omega⟩,⟨by omega,by omega⟩,⟨by omega,by omega⟩,by omega,by omega⟩
  have r1:=GW hy1 h1
  rw [eY] at r1
  have hy0:HY (y * p / 4294967296) (y * p % 4294967296) (U * 4294967296+L / 4294967296 - q1 * (y * p)) (L % 4294967296):=⟨⟨by omega,by omega⟩,⟨by omega,by omega⟩,⟨by omega,by omega⟩,by omega,by omega⟩
  have r0:=GW hy0 h0
  rw [eY] at r0
  have i1:=h1.1
  have i0:=h0.1
  rw [qI (n:=q1 * 4294967296) (by omega) (by omega),qI (by omega) (by omega)]
  generalize hR:(U * 4294967296+L / 4294967296 - q1 * (y * p)) * 4294967296+L % 4294967296 - q0 * (y * p)=R at *
  have e:(q1 * 4294967296+q0) * (y * p)=q1 * (y * p) * 4294967296+q0 * (y * p):=by rw [Int.add_mul,Int.mul_right_comm]
  have hq:N * p=(q1 * 4294967296+q0) * (y * p)+R:=by rw [e]; omega
  have hR2:R=(N - (q1 * 4294967296+q0) * y) * p:=by rw [Int.sub_mul,Int.mul_assoc]; omega
  have hpos:0≤N - (q1 * 4294967296+q0) * y:=by
    rcases Int.lt_or_le (N - (q1 * 4294967296+q0) * y) 0 with c | c
    · have:=Int.mul_neg_of_neg_of_pos c hp
      omega
    · exact c
  have hlt:N - (q1 * 4294967296+q0) * y < y:=by
    rcases Int.lt_or_le (N - (q1 * 4294967296+q0) * y) y with c | c
    · exact c
    · have:=Int.mul_le_mul_of_nonneg_right c (Int.le_of_lt hp)
      omega
  have hd:N / y=q1 * 4294967296+q0:=by
    rw [Int.ediv_eq_iff_of_pos hy]
    constructor
    · omega
    · omega
  refine ⟨hd.symm,?_⟩
  rw [hR2,Int.mul_ediv_cancel _ (by omega),Int.emod_def,hd,Int.mul_comm y]
def yM (hi:Int) (lo:Int) (y:Int):Sk (Int × Int) :=
 .bind false (fun _=>True)
 (.br (y == 0)
 (.dead default)
 (.fin (.inr ())))
 (fun (_:Unit)=>⟨[],[]⟩) fun _ =>
 .bind false (fun _=>True)
 (.br (decide (y≤hi))
 (.dead default)
 (.fin (.inr ())))
 (fun (_:Unit)=>⟨[],[]⟩) fun _ =>
 .br (hi == 0)
 (.r 6 (.andl (.p (y≠0)) (.p (y≠0))) fun _ =>
 .fin (IntKind.u64.wrap (lo.tdiv y),lo.tmod y))
 (.r 7 ((yU y).c) fun x3 =>
 .r 8 (.p (0≤(IntKind.u64.wrap (x3)))) fun _ =>
 .r 9 (.p (0≤(32:Int))) fun _ =>
 .r 11 (.andl (.p (0≤(IntKind.u64.wrap (x3)))) (.p (0≤(IntKind.u64.wrap ((64:Int) - (IntKind.u64.wrap (x3))))))) fun _ =>
 .r 12 (.p (0≤(IntKind.u64.wrap (x3)))) fun _ =>
 .r 13 (.p (0≤(32:Int))) fun _ =>
 .r 15 (.p ((qa .u64 (qD .u64 y (IntKind.u64.wrap (x3))) 32)≠0)) fun _ =>
 .bind true (fun b4=>HQ (qa .u64 (qD .u64 y (IntKind.u64.wrap (x3))) 32) (qg .u64 (qD .u64 y (IntKind.u64.wrap (x3))) 4294967295) (orK .u64 (qD .u64 hi (IntKind.u64.wrap (x3))) (qa .u64 lo (IntKind.u64.wrap ((64:Int) - (IntKind.u64.wrap (x3)))))) (qa .u64 (qD .u64 lo (IntKind.u64.wrap (x3))) 32) b4.1)
 (.loop (default:Sum (Int × Int) (Int × Int)) (fun i5=>HI (qa .u64 (qD .u64 y (IntKind.u64.wrap (x3))) 32) (qg .u64 (qD .u64 y (IntKind.u64.wrap (x3))) 4294967295) (orK .u64 (qD .u64 hi (IntKind.u64.wrap (x3))) (qa .u64 lo (IntKind.u64.wrap ((64:Int) - (IntKind.u64.wrap (x3)))))) (qa .u64 (qD .u64 lo (IntKind.u64.wrap (x3))) 32) i5.1 i5.2) (fun i5=>i5.1.toNat) ((IntKind.u64.wrap ((orK .u64 (qD .u64 hi (IntKind.u64.wrap (x3))) (qa .u64 lo (IntKind.u64.wrap ((64:Int) - (IntKind.u64.wrap (x3)))))).tdiv (qa .u64 (qD .u64 y (IntKind.u64.wrap (x3))) 32)),IntKind.u64.wrap ((orK .u64 (qD .u64 hi (IntKind.u64.wrap (x3))) (qa .u64 lo (IntKind.u64.wrap ((64:Int) - (IntKind.u64.wrap (x3)))))) - (IntKind.u64.wrap ((IntKind.u64.wrap ((orK .u64 (qD .u64 hi (IntKind.u64.wrap (x3))) (qa .u64 lo (IntKind.u64.wrap ((64:Int) - (IntKind.u64.wrap (x3)))))).tdiv (qa .u64 (qD .u64 y (IntKind.u64.wrap (x3))) 32))) * (qa .u64 (qD .u64 y (IntKind.u64.wrap (x3))) 32))))):Int × Int)
 (fun (i5:Int × Int)=>⟨[(15,.d (.v (.int .u64 i5.1))),(16,.d (.v (.int .u64 i5.2)))],[]⟩) fun i5 =>
 .br ((decide (i5.1≥4294967296))||(decide ((IntKind.u64.wrap (i5.1 * (qg .u64 (qD .u64 y (IntKind.u64.wrap (x3))) 4294967295))) > (IntKind.u64.wrap ((IntKind.u64.wrap ((4294967296:Int) * i5.2))+(qa .u64 (qD .u64 lo (IntKind.u64.wrap (x3))) 32))))))
 (.br (decide ((IntKind.u64.wrap (i5.2+(qa .u64 (qD .u64 y (IntKind.u64.wrap (x3))) 32)))≥4294967296))
 (.fin (.inl (.inr (IntKind.u64.wrap (i5.1 - 1),IntKind.u64.wrap (i5.2+(qa .u64 (qD .u64 y (IntKind.u64.wrap (x3))) 32))))))
 (.fin (.inr (IntKind.u64.wrap (i5.1 - 1),IntKind.u64.wrap (i5.2+(qa .u64 (qD .u64 y (IntKind.u64.wrap (x3))) 32))))))
 (.fin (.inl (.inr (i5.1,i5.2)))))
 (fun (b4:Int × Int)=>⟨[(15,.d (.v (.int .u64 b4.1))),(16,.d (.v (.int .u64 b4.2)))],[]⟩) fun b4 =>
 .r 22 (.p ((qa .u64 (qD .u64 y (IntKind.u64.wrap (x3))) 32)≠0)) fun _ =>
 .bind true (fun b6=>HQ (qa .u64 (qD .u64 y (IntKind.u64.wrap (x3))) 32) (qg .u64 (qD .u64 y (IntKind.u64.wrap (x3))) 4294967295) (IntKind.u64.wrap ((IntKind.u64.wrap ((IntKind.u64.wrap ((orK .u64 (qD .u64 hi (IntKind.u64.wrap (x3))) (qa .u64 lo (IntKind.u64.wrap ((64:Int) - (IntKind.u64.wrap (x3)))))) * 4294967296))+(qa .u64 (qD .u64 lo (IntKind.u64.wrap (x3))) 32))) - (IntKind.u64.wrap (b4.1 * (qD .u64 y (IntKind.u64.wrap (x3))))))) (qg .u64 (qD .u64 lo (IntKind.u64.wrap (x3))) 4294967295) b6)
 (.loop (default:Sum (Int × Int) (Int)) (fun i7=>HI (qa .u64 (qD .u64 y (IntKind.u64.wrap (x3))) 32) (qg .u64 (qD .u64 y (IntKind.u64.wrap (x3))) 4294967295) (IntKind.u64.wrap ((IntKind.u64.wrap ((IntKind.u64.wrap ((orK .u64 (qD .u64 hi (IntKind.u64.wrap (x3))) (qa .u64 lo (IntKind.u64.wrap ((64:Int) - (IntKind.u64.wrap (x3)))))) * 4294967296))+(qa .u64 (qD .u64 lo (IntKind.u64.wrap (x3))) 32))) - (IntKind.u64.wrap (b4.1 * (qD .u64 y (IntKind.u64.wrap (x3))))))) (qg .u64 (qD .u64 lo (IntKind.u64.wrap (x3))) 4294967295) i7.2 i7.1) (fun i7=>i7.2.toNat) ((IntKind.u64.wrap ((IntKind.u64.wrap ((IntKind.u64.wrap ((IntKind.u64.wrap ((orK .u64 (qD .u64 hi (IntKind.u64.wrap (x3))) (qa .u64 lo (IntKind.u64.wrap ((64:Int) - (IntKind.u64.wrap (x3)))))) * 4294967296))+(qa .u64 (qD .u64 lo (IntKind.u64.wrap (x3))) 32))) - (IntKind.u64.wrap (b4.1 * (qD .u64 y (IntKind.u64.wrap (x3))))))) - (IntKind.u64.wrap ((IntKind.u64.wrap ((IntKind.u64.wrap ((IntKind.u64.wrap ((IntKind.u64.wrap ((orK .u64 (qD .u64 hi (IntKind.u64.wrap (x3))) (qa .u64 lo (IntKind.u64.wrap ((64:Int) - (IntKind.u64.wrap (x3)))))) * 4294967296))+(qa .u64 (qD .u64 lo (IntKind.u64.wrap (x3))) 32))) - (IntKind.u64.wrap (b4.1 * (qD .u64 y (IntKind.u64.wrap (x3))))))).tdiv (qa .u64 (qD .u64 y (IntKind.u64.wrap (x3))) 32))) * (qa .u64 (qD .u64 y (IntKind.u64.wrap (x3))) 32)))),IntKind.u64.wrap ((IntKind.u64.wrap ((IntKind.u64.wrap ((IntKind.u64.wrap ((orK .u64 (qD .u64 hi (IntKind.u64.wrap (x3))) (qa .u64 lo (IntKind.u64.wrap ((64:Int) - (IntKind.u64.wrap (x3)))))) * 4294967296))+(qa .u64 (qD .u64 lo (IntKind.u64.wrap (x3))) 32))) - (IntKind.u64.wrap (b4.1 * (qD .u64 y (IntKind.u64.wrap (x3))))))).tdiv (qa .u64 (qD .u64 y (IntKind.u64.wrap (x3))) 32))):Int × Int)
 (fun (i7:Int × Int)=>⟨[(16,.d (.v (.int .u64 i7.1))),(18,.d (.v (.int .u64 i7.2)))],[]⟩) fun i7 =>
 .br ((decide (i7.2≥4294967296))||(decide ((IntKind.u64.wrap (i7.2 * (qg .u64 (qD .u64 y (IntKind.u64.wrap (x3))) 4294967295))) > (IntKind.u64.wrap ((IntKind.u64.wrap ((4294967296:Int) * i7.1))+(qg .u64 (qD .u64 lo (IntKind.u64.wrap (x3))) 4294967295))))))
 (.br (decide ((IntKind.u64.wrap (i7.1+(qa .u64 (qD .u64 y (IntKind.u64.wrap (x3))) 32)))≥4294967296))
 (.fin (.inl (.inr (IntKind.u64.wrap (i7.2 - 1)))))
 (.fin (.inr (IntKind.u64.wrap (i7.1+(qa .u64 (qD .u64 y (IntKind.u64.wrap (x3))) 32)),IntKind.u64.wrap (i7.2 - 1)))))
 (.fin (.inl (.inr i7.2))))
 (fun (b6:Int)=>⟨[(18,.d (.v (.int .u64 b6)))],[]⟩) fun b6 =>
 .r 28 (.p (0≤(IntKind.u64.wrap (x3)))) fun _ =>
 .fin (IntKind.u64.wrap ((IntKind.u64.wrap (b4.1 * 4294967296))+b6),qa .u64 (IntKind.u64.wrap ((IntKind.u64.wrap ((IntKind.u64.wrap ((IntKind.u64.wrap ((IntKind.u64.wrap ((IntKind.u64.wrap ((orK .u64 (qD .u64 hi (IntKind.u64.wrap (x3))) (qa .u64 lo (IntKind.u64.wrap ((64:Int) - (IntKind.u64.wrap (x3)))))) * 4294967296))+(qa .u64 (qD .u64 lo (IntKind.u64.wrap (x3))) 32))) - (IntKind.u64.wrap (b4.1 * (qD .u64 y (IntKind.u64.wrap (x3))))))) * 4294967296))+(qg .u64 (qD .u64 lo (IntKind.u64.wrap (x3))) 4294967295))) - (IntKind.u64.wrap (b6 * (qD .u64 y (IntKind.u64.wrap (x3))))))) (IntKind.u64.wrap (x3))))
def zgo (hi:Int) (lo:Int) (y:Int):Int × Int:=(yM hi lo y).val
theorem zgn (hi:Int) (lo:Int) (y:Int) (hP:0≤hi∧hi < y∧y < 18446744073709551616∧0≤lo∧lo < 18446744073709551616):(yM hi lo y).pst (fun (x:Int × Int)=>x.1=(hi * 18446744073709551616+lo) / y∧x.2=(hi * 18446744073709551616+lo) % y):=by
  refine Sk.pst_of _ ?_
  unfold yM
  simp only [Sk.pstq,Sk.isLoop,reduceCtorEq,ON,kk,yU,maxLen]
  refine ⟨fun h=>by simp only [LN] at h; omega,fun _ _=>⟨fun h=>by simp only [LN] at h; omega,fun _ _=>⟨fun h0 _=>?_,fun _ x _ hx=>?_⟩⟩⟩
  · simp only [LN] at h0
    subst h0
    have e:=Int.tdiv_eq_ediv_of_nonneg (a:=lo) (b:=y) hP.2.2.2.1
    have e2:=Int.tmod_eq_emod_of_nonneg (a:=lo) (b:=y) hP.2.2.2.1
    have q0:0≤lo / y:=Int.ediv_nonneg hP.2.2.2.1 (by omega)
    have q1:lo / y≤lo:=Int.ediv_le_self _ hP.2.2.2.1
    rw [e,e2,qI q0 (by omega)]
    simp
  · have hx:=hx ⟨by omega,by omega⟩
    obtain ⟨U,L,eU,eL,eY,hL,hU,hN⟩:=zjL hP hx
    simp only [eU,eL,eY,zor]
    have hp:(0:Int) < 2 ^ x.toNat:=Int.pow_pos (by omega)
    have es:∀ a:Int,qa .u64 a (IntKind.u64.wrap x)=a / 2 ^ x.toNat:=fun a=>by
      rw [qI hx.1 (by omega)]
      exact zcG .u64 (b:=x) (by show 0≤x∧x≤64; omega)
    simp only [es]
    have hw:=fun q1 q0=>zpD (y:=y) (q1:=q1) (q0:=q0) (by omega) hp hx.2.2 hL hU hN
    generalize hYY:y * 2 ^ x.toNat=Y at *
    rw [zeJ (by omega) hx.2.2.2,zeJ hL.1 hL.2]
    have eY2:Y / 4294967296 * 4294967296+Y % 4294967296=Y:=by omega
    have hy1:HY (Y / 4294967296) (Y % 4294967296) U (L / 4294967296):=⟨⟨by omega,by omega⟩,⟨by omega,by omega⟩,⟨by omega,by omega⟩,by omega,by omega⟩
    intro _ _ _ _ _ _
    refine ⟨⟨Fm hy1,fun i hi=>⟨fun hc=>?_,fun hc=>Fr hy1 hi hc⟩⟩,fun b hb=>?_⟩
    · have h:=Fe hy1 hi hc
      exact ⟨fun h2=>h.2.1 (of_decide_eq_true h2),fun h2=>⟨h.2.2 (Int.not_le.1 (of_decide_eq_false h2)),h.1⟩⟩
    · have r1:=GW hy1 hb
      rw [eY2] at r1
      rw [r1.1]
      have hy0:HY (Y / 4294967296) (Y % 4294967296) (U * 4294967296+L / 4294967296 - b.1 * Y) (L % 4294967296):=⟨⟨by omega,by omega⟩,⟨by omega,by omega⟩,⟨by omega,by omega⟩,by omega,by omega⟩
      intro _
      refine ⟨⟨Fm hy0,fun i hi=>⟨fun hc=>?_,fun hc=>Fr hy0 hi hc⟩⟩,fun q hq=>?_⟩
      · have h:=Fe hy0 hi hc
        exact ⟨fun h2=>h.2.1 (of_decide_eq_true h2),fun h2=>⟨h.2.2 (Int.not_le.1 (of_decide_eq_false h2)),h.1⟩⟩
      · intro _
        have r0:=GW hy0 hq
        rw [eY2] at r0
        rw [r0.1]
        exact hw _ _ hb hq

theorem zdL (hi:Int) (lo:Int) (y:Int):(fun (x:Int × Int)=>(0≤hi∧hi < y∧y < 18446744073709551616∧0≤lo∧lo < 18446744073709551616)→(x.1=(hi * 18446744073709551616+lo) / y∧x.2=(hi * 18446744073709551616+lo) % y)) (zgo hi lo y):=fun hP=>Sk.pval _ (zgn hi lo y hP)
theorem zhI (hi:Int) (lo:Int) (y:Int) (hy:0≤hi∧hi < y∧y < 18446744073709551616∧0≤lo∧lo < 18446744073709551616):(yM hi lo y).obs (fun _=>True):=by
  refine Sk.obs_of _ ?_
  unfold yM
  simp only [Sk.obq,Sk.isLoop,reduceCtorEq,ON,kk,yU,maxLen]
  refine ⟨fun h=>by simp only [LN] at h; omega,fun _ _=>⟨fun h=>by simp only [LN] at h; omega,fun _ _=>⟨fun _=>by omega,fun _=>⟨by omega,fun x _ hx=>?_⟩⟩⟩⟩
  have hx:=hx ⟨by omega,by omega⟩
  obtain ⟨U,L,eU,eL,eY,hL,hU,hN⟩:=zjL hy hx
  simp only [eU,eL,eY,zor]
  have hp:(0:Int) < 2 ^ x.toNat:=Int.pow_pos (by omega)
  generalize hYY:y * 2 ^ x.toNat=Y at *
  rw [zeJ (by omega) hx.2.2.2,zeJ hL.1 hL.2]
  have eY2:Y / 4294967296 * 4294967296+Y % 4294967296=Y:=by omega
  have hn:Y / 4294967296≠0:=by omega
  have hy1:HY (Y / 4294967296) (Y % 4294967296) U (L / 4294967296):=⟨⟨by omega,by omega⟩,⟨by omega,by omega⟩,⟨by omega,by omega⟩,by omega,by omega⟩
  refine ⟨(uk _).1,fun _=>⟨by decide,fun _=>⟨⟨(uk _).1,(uk _).1⟩,fun _=>⟨(uk _).1,fun _=>⟨by decide,fun _=>⟨hn,fun _=>⟨⟨Fm hy1,fun i hi=>⟨fun hc=>?_,fun hc=>Fr hy1 hi hc⟩⟩,fun b hb=>⟨hn,fun _=>?_⟩⟩⟩⟩⟩⟩⟩⟩
  · have h:=Fe hy1 hi hc
    exact ⟨fun h2=>h.2.1 (of_decide_eq_true h2),fun h2=>⟨h.2.2 (Int.not_le.1 (of_decide_eq_false h2)),h.1⟩⟩
  · have r1:=GW hy1 hb
    rw [eY2] at r1
    rw [r1.1]
    have hy0:HY (Y / 4294967296) (Y % 4294967296) (U * 4294967296+L / 4294967296 - b.1 * Y) (L % 4294967296):=⟨⟨by omega,by omega⟩,⟨by omega,by omega⟩,⟨by omega,by omega⟩,by omega,by omega⟩
    refine ⟨⟨Fm hy0,fun i hi=>⟨fun hc=>?_,fun hc=>Fr hy0 hi hc⟩⟩,fun q hq=>(uk _).1⟩
    have h:=Fe hy0 hi hc
    exact ⟨fun h2=>h.2.1 (of_decide_eq_true h2),fun h2=>⟨h.2.2 (Int.not_le.1 (of_decide_eq_false h2)),h.1⟩⟩

def gN (hi:Int) (lo:Int) (y:Int):Ctr (Int × Int):=kk tok mixed Tryz.func228 [.d (.v (.int .u64 hi)),.d (.v (.int .u64 lo)),.d (.v (.int .u64 y))] (fun x=>.tup [.d (.v (.int .u64 x.1)),.d (.v (.int .u64 x.2))]) true (yM hi lo y) (zgo hi lo y) (fun (h:(0≤hi∧hi < y∧y < 18446744073709551616∧0≤lo∧lo < 18446744073709551616))=>zhI hi lo y h) (fun (x:Int × Int)=>(0≤hi∧hi < y∧y < 18446744073709551616∧0≤lo∧lo < 18446744073709551616)→(x.1=(hi * 18446744073709551616+lo) / y∧x.2=(hi * 18446744073709551616+lo) % y)) (zdL hi lo y)
def yG (a:Int) (b:Int) (c_:Int):Sk (Int × Int × Bool) :=
 .r 1 ((vO (IntKind.u64.wrap (a)) (IntKind.u64.wrap (b))).c) fun x1 =>
 .br (decide (x1.1≥(IntKind.u64.wrap (c_))))
 (.fin (0,0,false))
 (.r 4 ((gN x1.1 x1.2 (IntKind.u64.wrap (c_))).c) fun x2 =>
 .br (decide (x2.1 > 1099511627776))
 (.fin (0,0,false))
 (.fin (w64 (x2.1),w64 (x2.2),true)))
def zfk (a:Int) (b:Int) (c_:Int):Int × Int × Bool:=(yG a b c_).val
theorem zga (a:Int) (b:Int) (c_:Int) (hP:(0≤a∧a≤9223372036854775807)∧(0≤b∧b≤9223372036854775807)∧0 < c_∧c_≤9223372036854775807):(yG a b c_).pst (fun (x:Int × Int × Bool)=>x.2.2=true→(0≤x.1∧x.1≤1099511627776)∧x.1=a * b / c_∧x.2.1=a * b % c_):=by
  refine Sk.pst_of _ ?_
  unfold yG
  simp only [Sk.pstq,Sk.isLoop,reduceCtorEq,ON,kk,gN,vO,maxLen]
  obtain ⟨ha,hb,hc1,hc2⟩:=hP
  rw [qI (n:=a) ha.1 (by omega),qI (n:=b) hb.1 (by omega),qI (n:=c_) (by omega) (by omega)]
  intro x _ hx
  obtain ⟨x1,x2,x3⟩:=hx ⟨⟨ha.1,by omega⟩,hb.1,by omega⟩
  intro hc y _ hy hc3
  simp only [LN] at hc hc3
  have hy:=hy ⟨x1.1,by omega,by omega,x2.1,x2.2⟩
  rw [x3] at hy
  have q0:0≤a * b / c_:=Int.ediv_nonneg (Int.mul_nonneg ha.1 hb.1) (by omega)
  have m0:=Int.emod_nonneg (a * b) (b:=c_) (by omega)
  have m1:=Int.emod_lt_of_pos (a * b) (b:=c_) hc1
  rw [jj (n:=y.1) (by omega) (by omega),jj (n:=y.2) (by omega) (by omega)]
  omega

theorem zet (a:Int) (b:Int) (c_:Int):(fun (x:Int × Int × Bool)=>((0≤a∧a≤9223372036854775807)∧(0≤b∧b≤9223372036854775807)∧0 < c_∧c_≤9223372036854775807)→(x.2.2=true→(0≤x.1∧x.1≤1099511627776)∧x.1=a * b / c_∧x.2.1=a * b % c_)) (zfk a b c_):=fun hP=>Sk.pval _ (zga a b c_ hP)
theorem ziO (a:Int) (b:Int) (c_:Int):(yG a b c_).obs (fun _=>True):=by
  refine Sk.obs_of _ ?_
  unfold yG
  simp only [Sk.obq,Sk.isLoop,reduceCtorEq,ON,kk,gN,vO,maxLen]
  intro x _ h hc
  simp only [LN] at hc
  obtain ⟨x1,x2,-⟩:=h ⟨uk _,uk _⟩
  exact ⟨x1.1,by omega,(uk _).2,x2.1,x2.2⟩

def WX (a:Int) (b:Int) (c_:Int):Ctr (Int × Int × Bool):=kk tok mixed Tryz.func224 [iv a,iv b,iv c_] (fun x=>.tup [iv x.1,iv x.2.1,bv x.2.2]) true (yG a b c_) (zfk a b c_) (fun (_:True)=>ziO a b c_) (fun (x:Int × Int × Bool)=>((0≤a∧a≤9223372036854775807)∧(0≤b∧b≤9223372036854775807)∧0 < c_∧c_≤9223372036854775807)→(x.2.2=true→(0≤x.1∧x.1≤1099511627776)∧x.1=a * b / c_∧x.2.1=a * b % c_)) (zet a b c_)
def zt (sum:Int) (permille:Int) (from_:Int) (to_:Int) (basis:Int):Sk (Int × Int) :=
 .r 1 (.dep ((uH sum 1099511627776).c) fun x1=>.dep (.wh (!x1) false ((uH permille 1000).c)) fun x2=>.dep (.wh ((!x1)||(!x2)) false ((uH from_ 100000).c)) fun x3=>.wh (((!x1)||(!x2))||(!x3)) false ((uH to_ 100000).c)) fun p6 =>
 .br ((((((!p6.1)||(!p6.2.1))||(!p6.2.2.1))||(!p6.2.2.2))||(decide (to_ < from_)))||((basis != 360)&&(basis != 365)))
 (.fin (0,1))
 (.r 3 ((WX sum (w64 (permille * (w64 (to_ - from_)))) (w64 ((1000:Int) * basis))).c) fun x5 =>
 .br (!x5.2.2)
 (.fin (0,3))
 (.fin (x5.1,0)))
def XO (sum:Int) (permille:Int) (from_:Int) (to_:Int) (basis:Int):Int × Int:=(zt sum permille from_ to_ basis).val
theorem BA (sum:Int) (permille:Int) (from_:Int) (to_:Int) (basis:Int):(zt sum permille from_ to_ basis).pst (fun (x:Int × Int)=>0≤x.1∧x.1≤1099511627776):=by
  refine Sk.pst_of _ ?_
  unfold zt
  simp only [Sk.pstq,Sk.isLoop,reduceCtorEq,ON,kk,WX,uH,Xl,forall_eq,maxLen]
  refine ⟨fun _=>⟨by decide,by decide⟩,fun hc h=>⟨fun _=>⟨by decide,by decide⟩,fun hc2=>?_⟩⟩
  simp only [LN] at hc hc2
  have hp0:0≤permille * (to_ - from_):=Int.mul_nonneg (by omega) (by omega)
  have hp1:permille * (to_ - from_)≤1000 * (to_ - from_):=Int.mul_le_mul_of_nonneg_right (by omega) (by omega)
  rw [jj (n:=to_ - from_) (by omega) (by omega),jj (n:=permille * (to_ - from_)) (by omega) (by omega),jj (n:=1000 * basis) (by omega) (by omega)] at h hc2 ⊢
  exact (h ⟨by omega,by omega,by omega⟩ hc2).1

theorem FU (sum:Int) (permille:Int) (from_:Int) (to_:Int) (basis:Int):(fun (x:Int × Int)=>0≤x.1∧x.1≤1099511627776) (XO sum permille from_ to_ basis):=have h:=Sk.pval _ (BA sum permille from_ to_ basis); h
theorem zby (sum:Int) (permille:Int) (from_:Int) (to_:Int) (basis:Int):(zt sum permille from_ to_ basis).obs (fun _=>True):=by
  unfold zt
  try simp only [WX,uH,Xl]
  exact okG

def QF (sum:Int) (permille:Int) (from_:Int) (to_:Int) (basis:Int):Ctr (Int × Int):=kk tok mixed Tryz.func193 [iv sum,iv permille,iv from_,iv to_,iv basis] (fun x=>.tup [iv x.1,iv x.2]) true (zt sum permille from_ to_ basis) (XO sum permille from_ to_ basis) (fun (_:True)=>zby sum permille from_ to_ basis) (fun (x:Int × Int)=>0≤x.1∧x.1≤1099511627776) (FU sum permille from_ to_ basis)
def qZ (sum:Int) (rate:Int) (from_:Int) (to_:Int):Sk (Int) :=
 .r 1 ((QF sum rate from_ to_ 360).c) fun x1 =>
 .br (x1.2 == 3)
 (.fin 1099511627776)
 (.fin x1.1)
def Xk (sum:Int) (rate:Int) (from_:Int) (to_:Int):Int:=(qZ sum rate from_ to_).val
theorem FL (sum:Int) (rate:Int) (from_:Int) (to_:Int):(qZ sum rate from_ to_).pst (fun (x:Int)=>0≤x∧x≤1099511627776):=by
  unfold qZ
  try simp only [QF]
  exact okP

theorem HJ (sum:Int) (rate:Int) (from_:Int) (to_:Int):(fun (x:Int)=>0≤x∧x≤1099511627776) (Xk sum rate from_ to_):=have h:=Sk.pval _ (FL sum rate from_ to_); h
theorem BP (sum:Int) (rate:Int) (from_:Int) (to_:Int):(qZ sum rate from_ to_).obs (fun _=>True):=by
  unfold qZ
  try simp only [QF]
  exact okE

def KP (sum:Int) (rate:Int) (from_:Int) (to_:Int):Ctr (Int):=kk tok mixed Tryz.func156 [iv sum,iv rate,iv from_,iv to_] (fun x=>iv x) true (qZ sum rate from_ to_) (Xk sum rate from_ to_) (fun (_:True)=>BP sum rate from_ to_) (fun (x:Int)=>0≤x∧x≤1099511627776) (HJ sum rate from_ to_)
structure qJ where
  num:Int
  den:Int
  deriving Inhabited
def qJ.cells (c:qJ):List D:=[dI c.num,dI c.den]
def qJ.E:Enc qJ:=⟨qJ.cells,2,fun _=>rfl,fun _=>rfl⟩
def uI (rates:List uR) (from_:Int) (to_:Int) (day:Int):Sk (Int) :=
 .bind true (fun b1=>b1 = -1∨(0≤b1∧b1 < (rates.length:Int)))
 (.loop (default:Sum (Int) (Int)) (fun i2=>i2.2≤rates.length∧(i2.1 = -1∨(0≤i2.1∧i2.1 < (rates.length:Int)))) (fun i2=>rates.length - i2.2) (((-1),0):Int × Nat)
 (fun (i2:Int × Nat)=>⟨[(9,iv i2.1),(14,iv ((i2.2:Nat):Int))],[]⟩) fun i2 =>
 .bnd 0 0 rates.length <|
 .br (decide (((i2.2:Nat):Int) < ((rates.length:Nat):Int)))
 (.r 4 (.p (ixP ((i2.2:Nat):Int) rates.length)) fun _ =>
 .r 5 (.wh (((((rates.getD i2.2 default).from_) == from_)&&(((rates.getD i2.2 default).to_) == to_))&&(decide (((rates.getD i2.2 default).since)≤day))) true (.wh (decide (i2.1 < 0)) false (.p (ixP i2.1 rates.length)))) fun _ =>
 .br ((((((rates.getD i2.2 default).from_) == from_)&&(((rates.getD i2.2 default).to_) == to_))&&(decide (((rates.getD i2.2 default).since)≤day)))&&((decide (i2.1 < 0))||(decide (((rates.getD i2.2 default).since) > ((rates.getD i2.1.toNat default).since)))))
 (.r 7 .z fun _ =>
 .wi 14 (w64 (((i2.2:Nat):Int)+1)) ((i2.2+1:Nat):Int) <|
 .fin (.inr (((i2.2:Nat):Int),i2.2+1)))
 (.r 7 .z fun _ =>
 .wi 14 (w64 (((i2.2:Nat):Int)+1)) ((i2.2+1:Nat):Int) <|
 .fin (.inr (i2.1,i2.2+1))))
 (.fin (.inl (.inr i2.1))))
 (fun (b1:Int)=>⟨[(9,iv b1)],[]⟩) fun b1 =>
 .fin b1
def zdf (rates:List uR) (from_:Int) (to_:Int) (day:Int):Int:=(uI rates from_ to_ day).val
theorem zdN (rates:List uR) (from_:Int) (to_:Int) (day:Int):(uI rates from_ to_ day).pst (fun (x:Int)=>x = -1∨(0≤x∧x < (rates.length:Int))):=by
  unfold uI
  exact okP

theorem zbE (rates:List uR) (from_:Int) (to_:Int) (day:Int):(fun (x:Int)=>x = -1∨(0≤x∧x < (rates.length:Int))) (zdf rates from_ to_ day):=have h:=Sk.pval _ (zdN rates from_ to_ day); h
theorem zhh (rates:List uR) (from_:Int) (to_:Int) (day:Int):(uI rates from_ to_ day).obs (fun _=>True):=by
  unfold uI
  exact okD

def Zo (rates:List uR) (from_:Int) (to_:Int) (day:Int):Ctr (Int):=kk tok mixed Tryz.func225 [lv uR.cells rates,iv from_,iv to_,iv day] (fun x=>iv x) true (uI rates from_ to_ day) (zdf rates from_ to_ day) (fun (_:True)=>zhh rates from_ to_ day) (fun (x:Int)=>x = -1∨(0≤x∧x < (rates.length:Int))) (zbE rates from_ to_ day)
def Jr (n:Int):Sk (Int) :=
 .br (decide (n < 0))
 (.fin (IntKind.u64.wrap (0 - (IntKind.u64.wrap (n)))))
 (.fin (IntKind.u64.wrap (n)))
def zjw (n:Int):Int:=(Jr n).val
theorem zhv (n:Int):(Jr n).pst (fun (x:Int)=>0≤x∧x < 18446744073709551616∧(0≤n→n≤9223372036854775807→x=n)):=by
  refine Sk.pst_of _ ?_
  unfold Jr
  simp only [Sk.pstq,Sk.isLoop,reduceCtorEq,ON,kk,maxLen]
  refine ⟨fun hc=>⟨(uk _).1,(uk _).2,fun h=>?_⟩,fun _=>⟨(uk _).1,(uk _).2,fun h1 h2=>qI h1 (by omega)⟩⟩
  simp only [LN] at hc
  omega

theorem zfE (n:Int):(fun (x:Int)=>0≤x∧x < 18446744073709551616∧(0≤n→n≤9223372036854775807→x=n)) (zjw n):=have h:=Sk.pval _ (zhv n); h
theorem zkP (n:Int):(Jr n).obs (fun _=>True):=by
  unfold Jr
  exact okE

def UX (n:Int):Ctr (Int):=kk tok mixed Tryz.func243 [iv n] (fun x=>.d (.v (.int .u64 x))) true (Jr n) (zjw n) (fun (_:True)=>zkP n) (fun (x:Int)=>0≤x∧x < 18446744073709551616∧(0≤n→n≤9223372036854775807→x=n)) (zfE n)
theorem zqN {p q:Int} (hp:0≤p) (hq:0≤q):q.gcd (p.tmod q)=p.gcd q:=by
  obtain ⟨p,rfl⟩:=Int.eq_ofNat_of_zero_le hp
  obtain ⟨q,rfl⟩:=Int.eq_ofNat_of_zero_le hq
  rw [Int.tmod_eq_emod_of_nonneg (by omega),← Int.natCast_emod,Int.gcd_natCast_natCast,Int.gcd_natCast_natCast,Nat.gcd_comm q,Nat.gcd_comm p q,Nat.gcd_rec q p]
theorem zi7 {i:Int × Int} {a b:Int} (hi:0≤i.1∧0≤i.2∧Int.gcd i.1 i.2=Int.gcd a b) (h:i.2≠0):(0≤i.2∧0≤i.1.tmod i.2∧Int.gcd i.2 (i.1.tmod i.2)=Int.gcd a b)∧(i.1.tmod i.2).toNat < i.2.toNat:=by
  have h1:=Int.tmod_nonneg i.2 hi.1
  have h2:=Int.tmod_lt_of_pos i.1 (b:=i.2) (by omega)
  exact ⟨⟨hi.2.1,h1,(zqN hi.1 hi.2.1).trans hi.2.2⟩,by omega⟩
theorem zov {i:Int × Int} {a b:Int} (hi:0≤i.1∧0≤i.2∧Int.gcd i.1 i.2=Int.gcd a b) (h:i.2=0):i.1=(Int.gcd a b:Int):=by
  rw [← hi.2.2,h]
  have:=hi.1
  simp [Int.gcd_zero_right]
  omega
theorem zmv {n:Int} {g:Int} (hn:1≤n∧n≤1073741824) (hg:0 < g) (hd:g∣n):1≤IntKind.u64.wrap (n.tdiv g)∧IntKind.u64.wrap (n.tdiv g)≤1073741824:=by
  have e:n.tdiv g=n / g:=Int.tdiv_eq_ediv_of_nonneg (by omega)
  have h1:g≤n:=Int.le_of_dvd (by omega) hd
  have h2:1≤n / g:=(Int.le_ediv_iff_mul_le hg).2 (by omega)
  have h3:n / g≤n:=Int.ediv_le_self _ (by omega)
  rw [e,qI (by omega) (by omega)]
  omega
def Ja (a:Int) (b:Int):Sk (Int) :=
 .bind true (fun b1=>b1=(Int.gcd a b:Int))
 (.loop (default:Sum (Int) (Int)) (fun i2=>0≤i2.1∧0≤i2.2∧Int.gcd i2.1 i2.2=Int.gcd a b) (fun i2=>i2.2.toNat) ((a,b):Int × Int)
 (fun (i2:Int × Int)=>⟨[(0,.d (.v (.int .u64 i2.1))),(1,.d (.v (.int .u64 i2.2)))],[]⟩) fun i2 =>
 .br (i2.2 != 0)
 (.r 2 (.p (i2.2≠0)) fun _ =>
 .fin (.inr (i2.2,i2.1.tmod i2.2)))
 (.fin (.inl (.inr i2.1))))
 (fun (b1:Int)=>⟨[(0,.d (.v (.int .u64 b1)))],[]⟩) fun b1 =>
 .fin b1
def zjq (a:Int) (b:Int):Int:=(Ja a b).val
theorem zh4 (a:Int) (b:Int) (hP:0≤a∧0≤b):(Ja a b).pst (fun (x:Int)=>x=(Int.gcd a b:Int)):=by
  refine Sk.pst_of _ ?_
  unfold Ja
  simp only [Sk.pstq,Sk.isLoop,reduceCtorEq,ON,kk,maxLen]
  exact ⟨⟨hP,fun i hi=>⟨fun hc _=>zi7 hi (by simpa using hc),fun hc=>zov hi (by simpa using hc)⟩⟩,fun b hb=>hb⟩

theorem zg5 (a:Int) (b:Int):(fun (x:Int)=>(0≤a∧0≤b)→(x=(Int.gcd a b:Int))) (zjq a b):=fun hP=>Sk.pval _ (zh4 a b hP)
theorem zjP (a:Int) (b:Int) (ha:0≤a∧0≤b):(Ja a b).obs (fun _=>True):=by
  refine Sk.obs_of _ ?_
  unfold Ja
  simp only [Sk.obq,Sk.isLoop,reduceCtorEq,ON,kk,maxLen]
  exact ⟨ha,fun i hi=>⟨fun hc=>⟨by simpa using hc,fun _=>zi7 hi (by simpa using hc)⟩,fun hc=>zov hi (by simpa using hc)⟩⟩

def HA (a:Int) (b:Int):Ctr (Int):=kk tok mixed Tryz.func244 [.d (.v (.int .u64 a)),.d (.v (.int .u64 b))] (fun x=>.d (.v (.int .u64 x))) true (Ja a b) (zjq a b) (fun (h:(0≤a∧0≤b))=>zjP a b h) (fun (x:Int)=>(0≤a∧0≤b)→(x=(Int.gcd a b:Int))) (zg5 a b)
structure Xa where
  hi:Int
  lo:Int
  deriving Inhabited
def Xa.cells (c:Xa):List D:=[.v (.int .u64 c.hi),.v (.int .u64 c.lo)]
def Xa.E:Enc Xa:=⟨Xa.cells,2,fun _=>rfl,fun _=>rfl⟩
def yD (negative:Bool) (num:Xa) (den:Xa):Sk (qJ × Int) :=
 .br ((((decide (num.hi > 0))||(decide (den.hi > 0)))||(decide (num.lo > 1152921504606846976)))||(decide (den.lo > 1152921504606846976)))
 (.fin (({ num:=0,den:=0 }:qJ),3))
 (.br negative
 (.fin (({ num:=w64 (0 - (w64 (num.lo))),den:=w64 (den.lo) }:qJ),0))
 (.fin (({ num:=w64 (num.lo),den:=w64 (den.lo) }:qJ),0)))
def ze1 (negative:Bool) (num:Xa) (den:Xa):qJ × Int:=(yD negative num den).val
theorem zhu (negative:Bool) (num:Xa) (den:Xa) (hP:num.hi=0∧den.hi=0∧negative=false∧(1≤num.lo∧num.lo≤1073741824)∧1≤den.lo∧den.lo≤1073741824):(yD negative num den).pst (fun (x:qJ × Int)=>x.1.num=num.lo∧x.1.den=den.lo):=by
  unfold yD
  exact okP

theorem zdG (negative:Bool) (num:Xa) (den:Xa):(fun (x:qJ × Int)=>(num.hi=0∧den.hi=0∧negative=false∧(1≤num.lo∧num.lo≤1073741824)∧1≤den.lo∧den.lo≤1073741824)→(x.1.num=num.lo∧x.1.den=den.lo)) (ze1 negative num den):=fun hP=>Sk.pval _ (zhu negative num den hP)
theorem zhz (negative:Bool) (num:Xa) (den:Xa):(yD negative num den).obs (fun _=>True):=by
  unfold yD
  exact okE

def WZ (negative:Bool) (num:Xa) (den:Xa):Ctr (qJ × Int):=kk tok mixed Tryz.func245 [bv negative,av num.cells,av den.cells] (fun x=>.tup [av x.1.cells,iv x.2]) true (yD negative num den) (ze1 negative num den) (fun (_:True)=>zhz negative num den) (fun (x:qJ × Int)=>(num.hi=0∧den.hi=0∧negative=false∧(1≤num.lo∧num.lo≤1073741824)∧1≤den.lo∧den.lo≤1073741824)→(x.1.num=num.lo∧x.1.den=den.lo)) (zdG negative num den)
def yF (num:Int) (den:Int):Sk (qJ × Int) :=
 .br (den == 0)
 (.fin (({ num:=0,den:=0 }:qJ),1))
 (.r 3 (.dep ((UX num).c) fun _=>(UX den).c) fun p5 =>
 .r 4 ((HA p5.1 p5.2).c) fun x3 =>
 .r 5 (.andl (.p (x3≠0)) (.andl (.p (x3≠0)) ((WZ (!((decide (num < 0)) == (decide (den < 0)))) ({ hi:=0,lo:=IntKind.u64.wrap (p5.1.tdiv x3) }:Xa) ({ hi:=0,lo:=IntKind.u64.wrap (p5.2.tdiv x3) }:Xa)).c))) fun x4 =>
 .fin (x4.1,x4.2))
def zhn (num:Int) (den:Int):qJ × Int:=(yF num den).val
theorem zgw (num:Int) (den:Int):(yF num den).pst (fun (x:qJ × Int)=>(den=0→x.2=1)∧((1≤num∧num≤1073741824)∧1≤den∧den≤1073741824→(1≤x.1.num∧x.1.num≤1073741824)∧1≤x.1.den∧x.1.den≤1073741824)):=by
  refine Sk.pst_of _ ?_
  unfold yF
  simp only [Sk.pstq,Sk.isLoop,reduceCtorEq,ON,kk,UX,HA,WZ,maxLen]
  refine ⟨fun hc h=>?_,fun hc x _ hx y _ hy z _ hz=>⟨fun h=>?_,fun h=>?_⟩⟩
  all_goals simp only [LN] at hc
  · omega
  · omega
  · have e1:=hx.1.2.2 (by omega) (by omega)
    have e2:=hx.2.2.2 (by omega) (by omega)
    have hg:=hy ⟨hx.1.1,hx.2.1⟩
    rw [e1,e2] at hg hz
    have hpos:0 < y:=by
      rw [hg]
      have:=Int.gcd_pos_of_ne_zero_left (a:=num) den (by omega)
      omega
    have q1:=zmv h.1 hpos (by rw [hg]; exact Int.gcd_dvd_left ..)
    have q2:=zmv h.2 hpos (by rw [hg]; exact Int.gcd_dvd_right ..)
    have hneg:(!decide (num < 0) == decide (den < 0))=false:=by
      rw [decide_eq_false (by omega),decide_eq_false (by omega)]; rfl
    have:=hz ⟨hneg,q1,q2⟩
    omega

theorem zee (num:Int) (den:Int):(fun (x:qJ × Int)=>(den=0→x.2=1)∧((1≤num∧num≤1073741824)∧1≤den∧den≤1073741824→(1≤x.1.num∧x.1.num≤1073741824)∧1≤x.1.den∧x.1.den≤1073741824)) (zhn num den):=have h:=Sk.pval _ (zgw num den); h
theorem zhH (num:Int) (den:Int) (hd:(0≤num∧num≤1073741824)∧0≤den∧den≤1073741824):(yF num den).obs (fun _=>True):=by
  refine Sk.obs_of _ ?_
  unfold yF
  simp only [Sk.obq,Sk.isLoop,reduceCtorEq,ON,kk,UX,HA,WZ,maxLen]
  intro hc x _ hx
  refine ⟨⟨hx.1.1,hx.2.1⟩,fun y _ hy=>?_⟩
  simp only [LN] at hc
  have hg:=hy ⟨hx.1.1,hx.2.1⟩
  have e2:=hx.2.2.2 (by omega) (by omega)
  have:=Int.gcd_pos_of_ne_zero_right x.1 (b:=x.2) (by omega)
  omega

def Ws (num:Int) (den:Int):Ctr (qJ × Int):=kk tok mixed Tryz.func226 [iv num,iv den] (fun x=>.tup [av x.1.cells,iv x.2]) true (yF num den) (zhn num den) (fun (h:((0≤num∧num≤1073741824)∧0≤den∧den≤1073741824))=>zhH num den h) (fun (x:qJ × Int)=>(den=0→x.2=1)∧((1≤num∧num≤1073741824)∧1≤den∧den≤1073741824→(1≤x.1.num∧x.1.num≤1073741824)∧1≤x.1.den∧x.1.den≤1073741824)) (zee num den)
def uu (r:jg) (from_:Int) (to_:Int) (day:Int):Sk (qJ × Bool) :=
 .r 2 ((Zo r.rates from_ to_ day).c) fun x1 =>
 .bind false (fun b2=>r.RateOK→(b2.1=0∧b2.2=0)∨((1≤b2.1∧b2.1≤1073741824)∧1≤b2.2∧b2.2≤1073741824))
 (.br (decide (x1≥0))
 (.r 4 (.andl (.p (ixP x1 r.rates.length)) (.p (ixP x1 r.rates.length))) fun _ =>
 .fin (.inr ((r.rates.getD x1.toNat default).num,(r.rates.getD x1.toNat default).den)))
 (.r 5 ((Zo r.rates to_ from_ day).c) fun x3 =>
 .br (decide (x3≥0))
 (.r 7 (.andl (.p (ixP x3 r.rates.length)) (.p (ixP x3 r.rates.length))) fun _ =>
 .fin (.inr ((r.rates.getD x3.toNat default).den,(r.rates.getD x3.toNat default).num)))
 (.fin (.inr (0,0)))))
 (fun (b2:Int × Int)=>⟨[(10,iv b2.1),(11,iv b2.2)],[]⟩) fun b2 =>
 .r 8 ((Ws b2.1 b2.2).c) fun x4 =>
 .fin (x4.1,x4.2 == 0)
def zdm (r:jg) (from_:Int) (to_:Int) (day:Int):qJ × Bool:=(uu r from_ to_ day).val
theorem zdw (r:jg) (from_:Int) (to_:Int) (day:Int) (hP:r.RateOK):(uu r from_ to_ day).pst (fun (x:qJ × Bool)=>x.2=true→(1≤x.1.num∧x.1.num≤1073741824)∧1≤x.1.den∧x.1.den≤1073741824):=by
  refine Sk.pst_of _ ?_
  unfold uu
  simp only [Sk.pstq,Sk.isLoop,reduceCtorEq,ON,kk,Zo,Ws,maxLen]
  intro x _ hx
  refine ⟨⟨fun hc _ hR=>?_,fun hc y _ hy=>⟨fun hc2 _ hR=>?_,fun _ _=>.inl trivial⟩⟩,fun b _ hb z _ hz h0=>?_⟩
  · simp only [LN] at hc
    exact .inr (hR x.toNat (by omega))
  · simp only [LN] at hc2
    exact .inr ⟨(hR y.toNat (by omega)).2,(hR y.toNat (by omega)).1⟩
  · rcases hb hP with h | h
    · have:=hz.1 h.2
      rw [this] at h0
      exact absurd h0 (by decide)
    · exact hz.2 h

theorem zcw (r:jg) (from_:Int) (to_:Int) (day:Int):(fun (x:qJ × Bool)=>(r.RateOK)→(x.2=true→(1≤x.1.num∧x.1.num≤1073741824)∧1≤x.1.den∧x.1.den≤1073741824)) (zdm r from_ to_ day):=fun hP=>Sk.pval _ (zdw r from_ to_ day hP)
theorem zhk (r:jg) (from_:Int) (to_:Int) (day:Int) (hra:r.RateOK):(uu r from_ to_ day).obs (fun _=>True):=by
  refine Sk.obs_of _ ?_
  unfold uu
  simp only [Sk.obq,Sk.isLoop,reduceCtorEq,ON,kk,Zo,Ws,maxLen]
  intro x _ hx
  refine ⟨⟨fun hc=>⟨?_,fun _ hR=>?_⟩,fun hc y _ hy=>⟨fun hc2=>⟨?_,fun _ hR=>?_⟩,fun _ _=>.inl trivial⟩⟩,fun b _ hb=>?_⟩
  · simp only [LN] at hc; omega
  · simp only [LN] at hc
    exact .inr (hR x.toNat (by omega))
  · simp only [LN] at hc2; omega
  · simp only [LN] at hc2
    exact .inr ⟨(hR y.toNat (by omega)).2,(hR y.toNat (by omega)).1⟩
  · rcases hb hra with h | h <;> omega

def Zk (r:jg) (from_:Int) (to_:Int) (day:Int):Ctr (qJ × Bool):=kk tok mixed Tryz.func194 [av r.cells,iv from_,iv to_,iv day] (fun x=>.tup [av x.1.cells,bv x.2]) true (uu r from_ to_ day) (zdm r from_ to_ day) (fun (h:(r.RateOK))=>zhk r from_ to_ day h) (fun (x:qJ × Bool)=>(r.RateOK)→(x.2=true→(1≤x.1.num∧x.1.num≤1073741824)∧1≤x.1.den∧x.1.den≤1073741824)) (zcw r from_ to_ day)
theorem zkA {a b:Int} (ha:1≤a∧a≤1073741824) (hb:1≤b∧b≤1073741824):(1≤a * b∧a * b≤1152921504606846976)∧IntKind.u64.wrap (IntKind.u64.wrap a * IntKind.u64.wrap b)=a * b:=by
  have h1:1 * b≤a * b:=Int.mul_le_mul_of_nonneg_right ha.1 (by omega)
  have h2:a * b≤1073741824 * b:=Int.mul_le_mul_of_nonneg_right ha.2 (by omega)
  have h3:1≤a * b∧a * b≤1152921504606846976:=by omega
  rw [qI (n:=a) (by omega) (by omega),qI (n:=b) (by omega) (by omega),qI (by omega) (by omega)]
  exact ⟨h3,rfl⟩
theorem zmq {s D W x y:Int} (hs:0≤s∧s≤1099511627776) (hD:0≤D∧D≤W) (hW:1≤W∧W≤1152921504606846976) (hx:0≤x) (hy:0≤y) (e:x * 18446744073709551616+y=s * D):x < W∧0≤s * D / W∧s * D / W≤s:=by
  have h0:0≤s * D:=Int.mul_nonneg hs.1 hD.1
  have h1:s * D≤s * W:=Int.mul_le_mul_of_nonneg_left hD.2 hs.1
  have h2:s * W≤1099511627776 * W:=Int.mul_le_mul_of_nonneg_right hs.2 (by omega)
  exact ⟨by omega,Int.ediv_nonneg h0 (by omega),Int.ediv_le_of_le_mul (by omega) h1⟩
def uQ (sum:Int) (a:qJ) (b:qJ):Sk (Int) :=
 .br (decide ((IntKind.u64.wrap ((IntKind.u64.wrap (a.num)) * (IntKind.u64.wrap (b.num))))≥(IntKind.u64.wrap ((IntKind.u64.wrap (a.den)) * (IntKind.u64.wrap (b.den))))))
 (.fin 0)
 (.r 4 ((vO (IntKind.u64.wrap (sum)) (IntKind.u64.wrap ((IntKind.u64.wrap ((IntKind.u64.wrap (a.den)) * (IntKind.u64.wrap (b.den)))) - (IntKind.u64.wrap ((IntKind.u64.wrap (a.num)) * (IntKind.u64.wrap (b.num))))))).c) fun x1 =>
 .r 5 ((gN x1.1 x1.2 (IntKind.u64.wrap ((IntKind.u64.wrap (a.den)) * (IntKind.u64.wrap (b.den))))).c) fun x2 =>
 .fin (w64 (x2.1)))
def zc9 (sum:Int) (a:qJ) (b:qJ):Int:=(uQ sum a b).val
theorem zdM (sum:Int) (a:qJ) (b:qJ) (hP:(0≤sum∧sum≤1099511627776)∧((1≤a.num∧a.num≤1073741824)∧1≤a.den∧a.den≤1073741824)∧(1≤b.num∧b.num≤1073741824)∧1≤b.den∧b.den≤1073741824):(uQ sum a b).pst (fun (x:Int)=>0≤x∧x≤1099511627776):=by
  refine Sk.pst_of _ ?_
  unfold uQ
  simp only [Sk.pstq,Sk.isLoop,reduceCtorEq,ON,kk,gN,vO,maxLen]
  obtain ⟨hs,ha,hb⟩:=hP
  obtain ⟨hk,ek⟩:=zkA (a:=a.num) (b:=b.num) ha.1 hb.1
  obtain ⟨hw,ew⟩:=zkA (a:=a.den) (b:=b.den) ha.2 hb.2
  rw [ek,ew]
  refine ⟨fun _=>⟨by decide,by decide⟩,fun hc x _ hx y _ hy=>?_⟩
  simp only [LN] at hc
  rw [qI (n:=sum) hs.1 (by omega),qI (n:=a.den * b.den - a.num * b.num) (by omega) (by omega)] at hx
  obtain ⟨h1,h2,h3⟩:=hx ⟨⟨hs.1,by omega⟩,by omega,by omega⟩
  obtain ⟨l1,l2,l3⟩:=zmq hs (D:=a.den * b.den - a.num * b.num) (by omega) hw h1.1 h2.1 h3
  have hy:=(hy ⟨h1.1,l1,by omega,h2.1,h2.2⟩).1
  rw [h3] at hy
  rw [jj (by omega) (by omega)]
  omega

theorem zcR (sum:Int) (a:qJ) (b:qJ):(fun (x:Int)=>((0≤sum∧sum≤1099511627776)∧((1≤a.num∧a.num≤1073741824)∧1≤a.den∧a.den≤1073741824)∧(1≤b.num∧b.num≤1073741824)∧1≤b.den∧b.den≤1073741824)→(0≤x∧x≤1099511627776)) (zc9 sum a b):=fun hP=>Sk.pval _ (zdM sum a b hP)
theorem zgG (sum:Int) (a:qJ) (b:qJ) (hs:0≤sum∧sum≤1099511627776) (ha:(1≤a.num∧a.num≤1073741824)∧1≤a.den∧a.den≤1073741824) (hb:(1≤b.num∧b.num≤1073741824)∧1≤b.den∧b.den≤1073741824):(uQ sum a b).obs (fun _=>True):=by
  refine Sk.obs_of _ ?_
  unfold uQ
  simp only [Sk.obq,Sk.isLoop,reduceCtorEq,ON,kk,gN,vO,maxLen]
  obtain ⟨hk,ek⟩:=zkA (a:=a.num) (b:=b.num) ha.1 hb.1
  obtain ⟨hw,ew⟩:=zkA (a:=a.den) (b:=b.den) ha.2 hb.2
  rw [ek,ew]
  intro hc x _ hx
  simp only [LN] at hc
  rw [qI (n:=sum) hs.1 (by omega),qI (n:=a.den * b.den - a.num * b.num) (by omega) (by omega)] at hx
  obtain ⟨h1,h2,h3⟩:=hx ⟨⟨hs.1,by omega⟩,by omega,by omega⟩
  obtain ⟨l1,l2,l3⟩:=zmq hs (D:=a.den * b.den - a.num * b.num) (by omega) hw h1.1 h2.1 h3
  exact ⟨h1.1,l1,by omega,h2.1,h2.2⟩

def YV (sum:Int) (a:qJ) (b:qJ):Ctr (Int):=kk tok mixed Tryz.func195 [iv sum,av a.cells,av b.cells] (fun x=>iv x) true (uQ sum a b) (zc9 sum a b) (fun (h:(0≤sum∧sum≤1099511627776)∧((1≤a.num∧a.num≤1073741824)∧1≤a.den∧a.den≤1073741824)∧((1≤b.num∧b.num≤1073741824)∧1≤b.den∧b.den≤1073741824))=>zgG sum a b h.1 h.2.1 h.2.2) (fun (x:Int)=>((0≤sum∧sum≤1099511627776)∧((1≤a.num∧a.num≤1073741824)∧1≤a.den∧a.den≤1073741824)∧(1≤b.num∧b.num≤1073741824)∧1≤b.den∧b.den≤1073741824)→(0≤x∧x≤1099511627776)) (zcR sum a b)
def qX (r:jg) (b:ua) (who:Int) (sum:Int) (from_:Int) (to_:Int):Sk (Int) :=
 .r 1 (.andl (.p (ixP who r.firms.length)) (.p (ixP ((r.firms.getD who.toNat default).city) r.cities.length))) fun _ =>
 .br (((r.cities.getD (((r.firms.getD who.toNat default).city).toNat) default).currency) == b.currency)
 (.fin 0)
 (.r 4 ((Zk r b.currency ((r.cities.getD (((r.firms.getD who.toNat default).city).toNat) default).currency) from_).c) fun x1 =>
 .r 5 ((Zk r ((r.cities.getD (((r.firms.getD who.toNat default).city).toNat) default).currency) b.currency to_).c) fun x2 =>
 .br ((!x1.2)||(!x2.2))
 (.fin 0)
 (.r 8 ((YV sum x1.1 x2.1).c) fun x3 =>
 .fin x3))
def Xp (r:jg) (b:ua) (who:Int) (sum:Int) (from_:Int) (to_:Int):Int:=(qX r b who sum from_ to_).val
theorem FS (r:jg) (b:ua) (who:Int) (sum:Int) (from_:Int) (to_:Int) (hP:(0≤sum∧sum≤1099511627776)∧r.RateOK):(qX r b who sum from_ to_).pst (fun (x:Int)=>0≤x∧x≤1099511627776):=by
  unfold qX
  try simp only [Zk,YV]
  exact okP

theorem Hb (r:jg) (b:ua) (who:Int) (sum:Int) (from_:Int) (to_:Int):(fun (x:Int)=>((0≤sum∧sum≤1099511627776)∧r.RateOK)→(0≤x∧x≤1099511627776)) (Xp r b who sum from_ to_):=fun hP=>Sk.pval _ (FS r b who sum from_ to_ hP)
theorem BE (r:jg) (b:ua) (who:Int) (sum:Int) (from_:Int) (to_:Int) (hw:0≤who∧who < (r.firms.length:Int)) (hs:0≤sum∧sum≤1099511627776) (hfi:r.FirmOK) (hra:r.RateOK):(qX r b who sum from_ to_).obs (fun _=>True):=by
  refine Sk.obs_of _ ?_
  unfold qX
  simp only [Sk.obq,Sk.isLoop,reduceCtorEq,ON,kk,Zk,YV,maxLen]
  refine ⟨⟨hw,hfi who.toNat (by omega)⟩,fun _ _=>⟨hra,fun x _ hx=>⟨hra,fun y _ hy hc=>?_⟩⟩⟩
  simp only [LN] at hc
  exact ⟨hs,hx hra hc.1,hy hra hc.2⟩

def KM (r:jg) (b:ua) (who:Int) (sum:Int) (from_:Int) (to_:Int):Ctr (Int):=kk tok mixed Tryz.func157 [av r.cells,av b.cells,iv who,iv sum,iv from_,iv to_] (fun x=>iv x) true (qX r b who sum from_ to_) (Xp r b who sum from_ to_) (fun (h:(0≤who∧who < (r.firms.length:Int))∧(0≤sum∧sum≤1099511627776)∧(r.FirmOK)∧(r.RateOK))=>BE r b who sum from_ to_ h.1 h.2.1 h.2.2.1 h.2.2.2) (fun (x:Int)=>((0≤sum∧sum≤1099511627776)∧r.RateOK)→(0≤x∧x≤1099511627776)) (Hb r b who sum from_ to_)
def ux (r:jg) (forum:Int) (f:jh) (sign:Int) (day:Int):Sk (HR) :=
 .r 1 ((ju f day).c) fun x1 =>
 .r 2 ((Gb r forum f sign day).c) fun x2 =>
 .br (((!x2.2)||(decide (sign < 0)))||(decide (sign≥((x1.signs.length:Nat):Int))))
 (.fin ({ sum:=0,interest:=0,costs:=0,exchange:=0,paid:=0,rest:=0,currency:=0 }:HR))
 (.r 6 ((jS r forum f day).c) fun x3 =>
 .bind false (fun b4=>jX r f→r.RateOK→(0≤b4.sum∧b4.sum≤1099511627776)∧(0≤b4.interest∧b4.interest≤1099511627776)∧(0≤b4.costs∧b4.costs≤1099511627776)∧(0≤b4.exchange∧b4.exchange≤1099511627776))
 (.br ((x3 != (-1))&&(decide (x3≤(qO day 100000))))
 (.bind false (fun _=>True)
 (.br (f.bill.rate == 0)
 (.r 11 (.dep ((qN r forum 16 ({ file:=f,sign:=sign,holder:=sign,defence:=(-1),due:=x3,day:=day }:ke)).c) fun x6=>(Qa x6).c) fun p8 =>
 .fin (.inr (qO 1000 (ki 0 p8.2))))
 (.fin (.inr f.bill.rate)))
 (fun (b5:Int)=>⟨[(18,iv b5)],[]⟩) fun b5 =>
 .r 12 ((KP x2.1.sum b5 x3 (qO day 100000)).c) fun x9 =>
 .r 13 (.dep ((qN r forum 17 ({ file:=f,sign:=sign,holder:=sign,defence:=(-1),due:=x3,day:=day }:ke)).c) fun x10=>(qK x10).c) fun p13 =>
 .br (p13.2 == 1)
 (.r 14 (.andl (.p (ixP sign x1.signs.length)) ((KM r f.bill ((x1.signs.getD sign.toNat default).who) x2.1.sum x3 (qO day 100000)).c)) fun x12 =>
 .fin (.inr ({ sum:=x2.1.sum,interest:=x9,costs:=0,exchange:=x12,paid:=0,rest:=0,currency:=f.bill.currency }:HR)))
 (.fin (.inr ({ sum:=x2.1.sum,interest:=x9,costs:=0,exchange:=0,paid:=0,rest:=0,currency:=f.bill.currency }:HR))))
 (.fin (.inr ({ sum:=x2.1.sum,interest:=0,costs:=0,exchange:=0,paid:=0,rest:=0,currency:=f.bill.currency }:HR))))
 (fun (b4:HR)=>⟨[],[(14,.box (b4.cells.map .d))]⟩) fun b4 =>
 .bind true (fun b14=>jX r f→0≤b14∧b14≤1099511627776)
 (.loop (default:Sum (HR) (Int)) (fun i15=>i15.1≤x1.acts.length∧(jX r f→0≤i15.2∧i15.2≤1099511627776)) (fun i15=>x1.acts.length - i15.1) ((0,b4.costs):Nat × Int)
 (fun (i15:Nat × Int)=>⟨[(116,iv ((i15.1:Nat):Int))],[(14,.box [iv b4.sum,iv b4.interest,iv i15.2,iv b4.exchange,iv b4.paid,iv b4.rest,iv b4.currency])]⟩) fun i15 =>
 .bnd 114 0 x1.acts.length <|
 .br (decide (((i15.1:Nat):Int) < ((x1.acts.length:Nat):Int)))
 (.r 17 (.p (ixP ((i15.1:Nat):Int) x1.acts.length)) fun _ =>
 .br ((((x1.acts.getD i15.1 default).kind) == 4)||(((x1.acts.getD i15.1 default).kind) == 5))
 (.r 20 .z fun _ =>
 .wi 116 (w64 (((i15.1:Nat):Int)+1)) ((i15.1+1:Nat):Int) <|
 .fin (.inr (i15.1+1,qO 1099511627776 (w64 (i15.2+((x1.acts.getD i15.1 default).sum))))))
 (.r 20 .z fun _ =>
 .wi 116 (w64 (((i15.1:Nat):Int)+1)) ((i15.1+1:Nat):Int) <|
 .fin (.inr (i15.1+1,i15.2))))
 (.fin (.inl (.inr i15.2))))
 (fun (b14:Int)=>⟨[],[(14,.box [iv b4.sum,iv b4.interest,iv b14,iv b4.exchange,iv b4.paid,iv b4.rest,iv b4.currency])]⟩) fun b14 =>
 .fin ({ b4 with costs:=b14,rest:=qO 1099511627776 (w64 ((w64 ((w64 (b4.sum+b4.interest))+b14))+b4.exchange)) }))
def KA (r:jg) (forum:Int) (f:jh) (sign:Int) (day:Int):HR:=(ux r forum f sign day).val
theorem zdE (r:jg) (forum:Int) (f:jh) (sign:Int) (day:Int) (hP:jX r f∧r.RateOK):(ux r forum f sign day).pst (fun (x:HR)=>0≤x.rest∧x.rest≤1099511627776):=by
  refine Sk.pst_of _ ?_
  unfold ux
  simp only [Sk.pstq,Sk.isLoop,reduceCtorEq,ON,kk,KM,KP,qN,jS,Qa,qK,Gb,ju,maxLen]
  obtain ⟨hF,hR⟩:=hP
  have hSum:=hF.sums
  have hSm:=hF.small
  have hw:∀ h1:jh,h1=ji f day→0≤sign→sign < (h1.signs.length:Int)→0≤(h1.signs.getD sign.toNat default).who∧(h1.signs.getD sign.toNat default).who < (r.firms.length:Int):=fun h1 e a b=>by subst e; exact hF.at_who day a b
  have ha:∀ h1:jh,h1=ji f day→∀ q:Nat,q < h1.acts.length→0≤(h1.acts.getD q default).sum∧(h1.acts.getD q default).sum≤1099511627776:=fun h1 e q hq=>by subst e; exact (hF.at_sums day).2.2.2 q hq
  all_goals (repeat' first | assumption | (apply And.intro) | (intro h))
  all_goals first | trivial | assumption | omega | (try simp only [hF,hR,hSum,hSm,and_self,and_true,true_implies,forall_const,LN] at *) <;> first | omega | assumption | exact (hw _ ‹_=ji f day› (by omega) (by omega)).1 | exact (hw _ ‹_=ji f day› (by omega) (by omega)).2 | (simp (disch:=omega) only [jj] at *; omega) | (simp (disch:=omega) only [jj,qO] at *; split <;> omega) | (have hq:=ha _ ‹_=ji f day› _ (Int.ofNat_lt.1 (by assumption)); simp (disch:=omega) only [jj,qO] at *; first | omega | (split <;> omega))

theorem Gi (r:jg) (forum:Int) (f:jh) (sign:Int) (day:Int):(fun (x:HR)=>(jX r f∧r.RateOK)→(0≤x.rest∧x.rest≤1099511627776)) (KA r forum f sign day):=fun hP=>Sk.pval _ (zdE r forum f sign day hP)
theorem zf5 (r:jg) (forum:Int) (f:jh) (sign:Int) (day:Int) (hF:jX r f) (h_f_Small:f.Small) (h_r_ByOK:r.ByOK) (h_r_Small:r.Small) (h_r_FirmOK:r.FirmOK) (h_r_RateOK:r.RateOK):(ux r forum f sign day).obs (fun _=>True):=by
  refine Sk.obs_of _ ?_
  unfold ux
  simp only [Sk.obq,Sk.isLoop,reduceCtorEq,ON,kk,KM,KP,qN,jS,Qa,qK,Gb,ju,maxLen]
  have hSum:=hF.sums
  have hSm:=hF.small
  have hw:∀ h1:jh,h1=ji f day→0≤sign→sign < (h1.signs.length:Int)→0≤(h1.signs.getD sign.toNat default).who∧(h1.signs.getD sign.toNat default).who < (r.firms.length:Int):=fun h1 e a b=>by subst e; exact hF.at_who day a b
  have ha:∀ h1:jh,h1=ji f day→∀ q:Nat,q < h1.acts.length→0≤(h1.acts.getD q default).sum∧(h1.acts.getD q default).sum≤1099511627776:=fun h1 e q hq=>by subst e; exact (hF.at_sums day).2.2.2 q hq
  all_goals (repeat' first | assumption | (apply And.intro) | (intro h))
  all_goals first | trivial | assumption | omega | (try simp only [hF,h_r_RateOK,hSum,hSm,and_self,and_true,true_implies,forall_const,LN] at *) <;> first | omega | assumption | exact (hw _ ‹_=ji f day› (by omega) (by omega)).1 | exact (hw _ ‹_=ji f day› (by omega) (by omega)).2 | (simp (disch:=omega) only [jj] at *; omega) | (simp (disch:=omega) only [jj,qO] at *; split <;> omega) | (have hq:=ha _ ‹_=ji f day› _ (Int.ofNat_lt.1 (by assumption)); simp (disch:=omega) only [jj,qO] at *; first | omega | (split <;> omega))

def YG (r:jg) (forum:Int) (f:jh) (sign:Int) (day:Int):Ctr (HR):=kk tok mixed Tryz.func120 [av r.cells,iv forum,av f.cells,iv sign,iv day] (fun x=>av x.cells) true (ux r forum f sign day) (KA r forum f sign day) (fun (h:(jX r f)∧(f.Small)∧(r.ByOK)∧(r.Small)∧(r.FirmOK)∧(r.RateOK))=>zf5 r forum f sign day h.1 h.2.1 h.2.2.1 h.2.2.2.1 h.2.2.2.2.1 h.2.2.2.2.2) (fun (x:HR)=>(jX r f∧r.RateOK)→(0≤x.rest∧x.rest≤1099511627776)) (Gi r forum f sign day)
def JI (r:jg) (forum:Int) (f:jh) (day:Int):Sk ((List Claim)) :=
 .r 1 ((zbI r forum f day).c) fun x1 =>
 .br (!x1.2)
 (.fin [])
 (.r 4 ((UL r forum f day).c) fun x2 =>
 .bind true (fun b3=>b3.length≤1000000)
 (.loop (default:Sum ((List Claim)) ((List Claim))) (fun i4=>i4.1≤x1.1.view.lead.length∧i4.2.length≤i4.1 * 10000) (fun i4=>x1.1.view.lead.length - i4.1) ((0,[]):Nat × (List Claim))
 (fun (i4:Nat × (List Claim))=>⟨[(42,iv ((i4.1:Nat):Int))],[(100366,jz 67 9 Claim.cells i4.2),(12,.box [ow 100366 i4.2])]⟩) fun i4 =>
 .bnd 40 0 x1.1.view.lead.length <|
 .br (decide (((i4.1:Nat):Int) < ((x1.1.view.lead.length:Nat):Int)))
 (.bind true (fun b5=>b5.length≤i4.2.length+10000)
 (.r 8 (.p (ixP ((i4.1:Nat):Int) x1.1.view.lead.length)) fun _ =>
 .r 9 ((QE x1.1.view (x1.1.view.lead.getD i4.1 default)).c) fun x6 =>
 .r 10 ((UM x1.1 x6).c) fun _ =>
 .bind true (fun b8=>b8.length≤i4.2.length+10000)
 (.rf (uY x1.1 x6) (fun ki9 i9=>i9.length≤i4.2.length+ki9 * 100) (fun (_:Unit)=>False) 2 (i4.2:(List Claim))
 (fun (i9:(List Claim))=>[(100534,jz 67 9 Claim.cells i9),(12,.box [ow 100534 i9])]) (fun (_:Unit)=>[])
 (fun i9 y10 =>
 .bind true (fun b12=>b12.length≤i9.length+100)
 (.r 12 ((Qh x1.1.view (x1.1.view.lead.getD i4.1 default) y10.sign x6).c) fun x13 =>
 .bind true (fun b14=>b14.2.length≤i9.length+x13.length)
 (.loop (default:Sum (Sum (Sum (Unit) ((List Claim))) ((List Claim))) (Int × (List Claim))) (fun i15=>i15.1≤x13.length∧i15.2.length≤i9.length+i15.1) (fun i15=>x13.length - i15.1) ((0,i9):Nat × (List Claim))
 (fun (i15:Nat × (List Claim))=>⟨[(62,iv ((i15.1:Nat):Int))],[(100548,jz 67 9 Claim.cells i15.2),(12,.box [ow 100548 i15.2])]⟩) fun i15 =>
 .bnd 60 0 x13.length <|
 .br (decide (((i15.1:Nat):Int) < ((x13.length:Nat):Int)))
 (.r 14 (.p (ixP ((i15.1:Nat):Int) x13.length)) fun _ =>
 .r 15 (.p (ixP (x13.getD i15.1 default) x1.1.view.now.signs.length)) fun _ =>
 .r 16 ((KU x1.1 y10 (x13.getD i15.1 default) x6 x2).c) fun x16 =>
 .br ((x16.1 == 0)||(((x1.1.view.now.signs.getD ((x13.getD i15.1 default).toNat) default).who) == y10.firm))
 (.r 20 .z fun _ =>
 .wi 62 (w64 (((i15.1:Nat):Int)+1)) ((i15.1+1:Nat):Int) <|
 .fin (.inr (i15.1+1,i15.2)))
 (.r 18 ((YG r forum f (x13.getD i15.1 default) day).c) fun x17 =>
 .r 19 (.andl (.o [.nrm (qk Claim.E [({ debtor:=(x1.1.view.now.signs.getD ((x13.getD i15.1 default).toNat) default).who,creditor:=y10.firm,part:=x1.1.view.lead.getD i4.1 default,sign:=x13.getD i15.1 default,by_:=y10.sign,turn:=x16.2,sum:=x17.rest,currency:=f.bill.currency,state:=x16.1 }:Claim)])]) (.andl (.o [.nrm (gy Claim.E i15.2 [({ debtor:=(x1.1.view.now.signs.getD ((x13.getD i15.1 default).toNat) default).who,creditor:=y10.firm,part:=x1.1.view.lead.getD i4.1 default,sign:=x13.getD i15.1 default,by_:=y10.sign,turn:=x16.2,sum:=x17.rest,currency:=f.bill.currency,state:=x16.1 }:Claim)])]) (.andl (.t (Claim.E.ones [({ debtor:=(x1.1.view.now.signs.getD ((x13.getD i15.1 default).toNat) default).who,creditor:=y10.firm,part:=x1.1.view.lead.getD i4.1 default,sign:=x13.getD i15.1 default,by_:=y10.sign,turn:=x16.2,sum:=x17.rest,currency:=f.bill.currency,state:=x16.1 }:Claim)])) (.p (szP i15.2.length [({ debtor:=(x1.1.view.now.signs.getD ((x13.getD i15.1 default).toNat) default).who,creditor:=y10.firm,part:=x1.1.view.lead.getD i4.1 default,sign:=x13.getD i15.1 default,by_:=y10.sign,turn:=x16.2,sum:=x17.rest,currency:=f.bill.currency,state:=x16.1 }:Claim)].length 72))))) fun _ =>
 .r 20 .z fun _ =>
 .wi 62 (w64 (((i15.1:Nat):Int)+1)) ((i15.1+1:Nat):Int) <|
 .fin (.inr (i15.1+1,i15.2++[({ debtor:=(x1.1.view.now.signs.getD ((x13.getD i15.1 default).toNat) default).who,creditor:=y10.firm,part:=x1.1.view.lead.getD i4.1 default,sign:=x13.getD i15.1 default,by_:=y10.sign,turn:=x16.2,sum:=x17.rest,currency:=f.bill.currency,state:=x16.1 }:Claim)]))))
 (.fin (.inl (.inr (((i15.1:Nat):Int),i15.2)))))
 (fun (b14:Int × (List Claim))=>⟨[(62,iv b14.1)],[(100547,jz 67 9 Claim.cells b14.2),(12,.box [ow 100547 b14.2])]⟩) fun b14 =>
 .fin (.inr b14.2))
 (fun (b12:(List Claim))=>⟨[],[(100545,jz 67 9 Claim.cells b12),(12,.box [ow 100545 b12])]⟩) fun b12 =>
 .fin (.inr b12)) fun r=>match r with
 | .inl _=>(.dead default)
 | .inr j18=>(.fin (.inr j18)))
 (fun (b8:(List Claim))=>⟨[],[(100526,jz 67 9 Claim.cells b8),(12,.box [ow 100526 b8])]⟩) fun b8 =>
 .fin (.inr b8))
 (fun (b5:(List Claim))=>⟨[],[(100503,jz 67 9 Claim.cells b5),(12,.box [ow 100503 b5])]⟩) fun b5 =>
 .r 21 .z fun _ =>
 .wi 42 (w64 (((i4.1:Nat):Int)+1)) ((i4.1+1:Nat):Int) <|
 .fin (.inr (i4.1+1,b5)))
 (.fin (.inl (.inr i4.2))))
 (fun (b3:(List Claim))=>⟨[],[(100274,jz 67 9 Claim.cells b3),(12,.box [ow 100274 b3])]⟩) fun b3 =>
 .fin b3)
def qo (r:jg) (forum:Int) (f:jh) (day:Int):(List Claim):=(JI r forum f day).val
theorem ziU (r:jg) (forum:Int) (f:jh) (day:Int) (hF:jX r f) (h_f_Small:f.Small) (h_r_ByOK:r.ByOK) (h_r_Small:r.Small) (h_r_FirmOK:r.FirmOK) (h_r_RateOK:r.RateOK):(JI r forum f day).obs (fun _=>True):=by
  refine Sk.obs_of _ ?_
  unfold JI
  simp only [Sk.obq,Sk.isLoop,reduceCtorEq,ON,kk,Sk.pstq,YG,UL,UM,KU,zbI,Qh,QE,uY,Sum.forall,FQ,forall_eq,maxLen]
  refine ⟨⟨h_f_Small,h_r_ByOK,h_r_Small⟩,?_⟩
  generalize jx r forum f day=x
  intro hx hc
  have he:=(hx (by simpa using hc)).1
  have ho:=YX f day
  dsimp only at ho
  have hall:x.1.view.all=f:=by rw [he]; exact ho.1
  have hnow:x.1.view.now=ji f day:=by rw [he]; exact ho.2.1
  have hday:x.1.view.day=day:=by rw [he]; exact ho.2.2.1
  have hxr:x.1.r=r:=by rw [he]
  have hS40:=hF.2.1.1
  have hlead:x.1.view.lead.length≠0∧x.1.view.lead.length≤41:=by rw [he]; exact ⟨ho.2.2.2.1,by have:=ho.2.2.2.2; show (jY f day).lead.length≤41; omega⟩
  have hsg:=Ql f day
  have hBase:x.1.view.BaseOK:=by unfold kS.BaseOK; rw [hnow]; exact hF.at_base day
  have hlk:∀ part,(jp x.1.view part).length≤40∧∀ y,y∈jp x.1.view part→0≤y∧y < ((ji f day).signs.length:Int):=fun part=>by
    have h:=us x.1.view part
    rw [hall,hday] at h
    exact ⟨Nat.le_trans h.1 hS40,fun y hy=>⟨(h.2 y hy).1,hF.at_in (h.2 y hy).1 (h.2 y hy).2.1 (h.2 y hy).2.2⟩⟩
  have hlg:∀ part i,i < (jp x.1.view part).length→0≤(jp x.1.view part).getD i default∧(jp x.1.view part).getD i default < ((ji f day).signs.length:Int):=fun part i hi=>(hlk part).2 _ (Qg hi _)
  have hpre:∀ part,znV x.1 (jp x.1.view part):=fun part=>by
    refine ⟨by have:=(hlk part).1; omega,fun i hi=>by rw [hnow]; exact hlg part i hi,fun i hi=>?_⟩
    have hs:x.1.view.now.Small:=by rw [hnow]; exact XR h_f_Small day
    have hb:x.1.r.ByOK:=by rw [hxr]; exact h_r_ByOK
    have hr:x.1.r.Small:=by rw [hxr]; exact h_r_Small
    exact ⟨hs,hb,hr⟩
  have hol:∀ part k y,(jJ x.1 (jp x.1.view part))[k]? = some y→k≤40:=fun part k y h=>by
    have h1:=(List.getElem?_eq_some_iff.1 h).1
    have h2:=Bt x.1 (jp x.1.view part)
    have h3:=(hlk part).1
    omega
  have hli:∀ part b l,(jR x.1.view part b l).length≤40∧∀ i,i < (jR x.1.view part b l).length→0≤(jR x.1.view part b l).getD i default∧(jR x.1.view part b l).getD i default < ((ji f day).signs.length:Int):=fun part b l=>by
    have h:=gC x.1.view part b l
    rw [hnow] at h
    exact ⟨Nat.le_trans h.1 (by omega),fun i hi=>h.2 _ (Qg hi _)⟩
  refine ⟨⟨h_f_Small,h_r_ByOK,h_r_Small⟩,fun hE=>⟨⟨Nat.zero_le _,by simp⟩,fun i hi hm=>⟨fun hlt=>⟨⟨by simp only [LN] at hlt; omega,fun _=>⟨by rw [hall]; exact h_f_Small,fun _ _=>⟨⟨hpre _,by omega,fun k s y hs hy=>?_,?_⟩,?_⟩⟩⟩,?_⟩,?_⟩⟩⟩
  · have hk:=hol _ _ _ hy
    obtain ⟨hn,hg⟩:=hli (x.1.view.lead.getD i.1 default) y.sign (jp x.1.view (x.1.view.lead.getD i.1 default))
    have hcl:∀ (l:List Claim) (c:Claim),(l++[c]).length=l.length+1:=fun l c=>by simp
    have hmax:i.2.length≤410000:=by simp only [LN] at hlt; omega
    refine ⟨⟨fun _=>⟨⟨⟨Nat.zero_le _,Nat.le_refl _⟩,fun j hj=>⟨fun hc _ _=>⟨fun _ _=>?_,fun _ _ _ _=>?_⟩,fun hc=>?_⟩⟩,fun b hb=>?_⟩,fun b _ hb=>?_⟩,⟨⟨hlead.1,by rw [hnow]; omega⟩,fun _=>?_⟩,?_⟩
    · simp only [LN] at hc; exact ⟨⟨by omega,by omega⟩,by omega⟩
    · simp only [LN] at hc; rw [hcl]; exact ⟨⟨by omega,by omega⟩,by omega⟩
    · simp only [LN] at hc; omega
    · omega
    · omega
    · have e1:x.1.view.now=ji x.1.view.all x.1.view.day:=by rw [hnow,hall,hday]
      have e2:jX x.1.r x.1.view.all:=by rw [hxr,hall]; exact hF
      have e3:x.1.view.all.Small:=by rw [hall]; exact h_f_Small
      have e4:x.1.r.ByOK:=by rw [hxr]; exact h_r_ByOK
      have e5:x.1.r.Small:=by rw [hxr]; exact h_r_Small
      have e6:(kH r forum f day).length=x.1.view.now.signs.length:=by rw [hnow]; exact hE
      have h1:∀ c:Claim,[c].length=1:=fun _=>rfl
      refine ⟨⟨⟨Nat.zero_le _,Nat.le_refl _⟩,fun j hj hm2=>⟨fun hc=>?_,fun hc=>?_⟩⟩,fun b hb=>by omega⟩
      · simp only [LN] at hc
        have hgj:=hg j.1 (by omega)
        rw [← hnow] at hgj
        refine ⟨⟨by omega,by omega⟩,fun _=>⟨hgj,fun _=>⟨⟨e6,hgj,e1,e2,hBase,e3,e4,e5⟩,fun _ _=>⟨(jj (by omega) (by omega)).trans (by omega),⟨by omega,by omega⟩,by omega⟩,fun _=>⟨⟨hF,h_f_Small,h_r_ByOK,h_r_Small,h_r_FirmOK,h_r_RateOK⟩,fun _=>⟨?_,fun _ _=>⟨(jj (by omega) (by omega)).trans (by omega),⟨by omega,?_⟩,by omega⟩⟩⟩⟩⟩⟩
        · rw [h1]; omega
        · rw [hcl]; omega
      · simp only [LN] at hc; omega
    · exact fun b _ hb=>by omega
  · intro b hb
    have h2:=Bt x.1 (jp x.1.view (x.1.view.lead.getD i.1 default))
    have h3:=(hlk (x.1.view.lead.getD i.1 default)).1
    omega
  · exact fun b _ hb=>hb
  · intro b _ hb _
    simp only [LN] at hlt
    exact ⟨(jj (by omega) (by omega)).trans (by omega),⟨by omega,by omega⟩,by omega⟩
  · intro hc
    simp only [LN] at hc
    omega

theorem zfb (r:jg) (forum:Int) (f:jh) (day:Int) (hF:jX r f) (h_f_Small:f.Small) (h_r_ByOK:r.ByOK) (h_r_Small:r.Small) (h_r_FirmOK:r.FirmOK) (h_r_RateOK:r.RateOK):FnA Tryz.prog 78 [av r.cells,iv forum,av f.cells,iv day] [] (ow 777777 (qo r forum f day)) [(777777,jz 67 9 Claim.cells (qo r forum f day))] :=
  FnA.sk tok mixed (fun x=>ow 777777 x) (fun x=>[(777777,jz 67 9 Claim.cells x)]) Tryz.func78 rfl (by kernel_rfl) 3000 (JI r forum f day) (by kernel_rfl) (ziU r forum f day hF h_f_Small h_r_ByOK h_r_Small h_r_FirmOK h_r_RateOK)
def Gc (κ:Nat) (r:jg) (forum:Int) (f:jh) (day:Int):vT ((List Claim)):=⟨Tryz.prog,78,[av r.cells,iv forum,av f.cells,iv day],fun x=>ow κ x,fun x=>[(κ,jz 67 9 Claim.cells x)],qo r forum f day,(jX r f)∧(f.Small)∧(r.ByOK)∧(r.Small)∧(r.FirmOK)∧(r.RateOK),fun h=>FnA.rekey κ (zfb r forum f day h.1 h.2.1 h.2.2.1 h.2.2.2.1 h.2.2.2.2.1 h.2.2.2.2.2),fun _=>True,trivial⟩
def Zt (s:qt) (v:jI):Sk (Bool) :=
 .fin (s.who == v.to_)
def kq (s:qt) (v:jI):Bool:=(Zt s v).val
theorem Zm (s:qt) (v:jI):kq s v=(s.who == v.to_):=rfl
theorem zis (s:qt) (v:jI):(Zt s v).obs (fun _=>True):=by
  unfold Zt
  exact okE

def Wy (s:qt) (v:jI):Ctr (Bool):=kk tok mixed Tryz.func80 [av s.cells,.ref v.cells] (fun x=>bv x) true (Zt s v) (kq s v) (fun (_:True)=>zis s v)
def kX (s:List qt) (v:jI):Sk (Int) :=
 .bind true (fun b1=>∀ q,q < s.length→kq (s.getD q default) v=false)
 (.loop (default:Sum (Int) (Unit)) (fun i2=>∀ q,q < i2→kq (s.getD q default) v=false) (fun i2=>s.length - i2) (0:Nat)
 (fun (i2:Nat)=>⟨[(8,iv ((i2:Nat):Int))],[]⟩) fun i2 =>
 .bnd 0 0 s.length <|
 .br (decide (((i2:Nat):Int) < ((s.length:Nat):Int)))
 (.r 4 (.andl (.p (ixP ((i2:Nat):Int) s.length)) ((Wy (s.getD i2 default) v).c)) fun x3 =>
 .br x3
 (.fin (.inl (.inl ((i2:Nat):Int))))
 (.r 6 .z fun _ =>
 .wi 8 (w64 (((i2:Nat):Int)+1)) ((i2+1:Nat):Int) <|
 .fin (.inr (i2+1))))
 (.fin (.inl (.inr ()))))
 (fun (_:Unit)=>⟨[],[]⟩) fun _ =>
 .fin (-1)
def Vs (s:List qt) (v:jI):Int:=(kX s v).val
theorem GB (s:List qt) (v:jI):(kX s v).pst (fun (x:Int)=>(x = -1∧∀ q,q < s.length→kq (s.getD q default) v=false)∨(0≤x∧x < s.length∧kq (s.getD x.toNat default) v=true∧∀ q,(q:Nat) < x.toNat→kq (s.getD q default) v=false)):=by
  unfold kX
  try simp only [Wy,Zm]
  exact okQ

theorem YF (s:List qt) (v:jI):(fun (x:Int)=>(x = -1∧∀ q,q < s.length→kq (s.getD q default) v=false)∨(0≤x∧x < s.length∧kq (s.getD x.toNat default) v=true∧∀ q,(q:Nat) < x.toNat→kq (s.getD q default) v=false)) (Vs s v):=have h:=Sk.pval _ (GB s v); h
theorem WV (s:List qt) (v:jI):(kX s v).obs (fun _=>True):=by
  unfold kX
  try simp only [Wy,Zm]
  exact okG

def yW (s:List qt) (v:jI):Ctr (Int):=kk tok mixed Tryz.func121 [lv qt.cells s,.fn 80 [.ref v.cells]] (fun x=>iv x) true (kX s v) (Vs s v) (fun (_:True)=>WV s v) (fun (x:Int)=>(x = -1∧∀ q,q < s.length→kq (s.getD q default) v=false)∨(0≤x∧x < s.length∧kq (s.getD x.toNat default) v=true∧∀ q,(q:Nat) < x.toNat→kq (s.getD q default) v=false)) (YF s v)
def kD (s:List qt) (v:jI):Sk (Bool) :=
 .r 1 ((yW s v).c) fun x1 =>
 .fin (decide (x1≥0))
def KN (s:List qt) (v:jI):Bool:=(kD s v).val
theorem Uz (s:List qt) (v:jI):(kD s v).pst (fun (x:Bool)=>(x=true↔∃ q,q < s.length∧kq (s.getD q default) v=true)):=by
  unfold kD
  try simp only [yW]
  exact okP

theorem VA (s:List qt) (v:jI):(fun (x:Bool)=>(x=true↔∃ q,q < s.length∧kq (s.getD q default) v=true)) (KN s v):=have h:=Sk.pval _ (Uz s v); h
theorem UT (s:List qt) (v:jI):(kD s v).obs (fun _=>True):=by
  unfold kD
  try simp only [yW]
  exact okE

def uc (s:List qt) (v:jI):Ctr (Bool):=kk tok mixed Tryz.func79 [lv qt.cells s,.fn 80 [.ref v.cells]] (fun x=>bv x) true (kD s v) (KN s v) (fun (_:True)=>UT s v) (fun (x:Bool)=>(x=true↔∃ q,q < s.length∧kq (s.getD q default) v=true)) (VA s v)
structure Step where
  debtor:Int
  creditor:Int
  sign:Int
  sum:Int
  deriving Inhabited
def Step.cells (c:Step):List D:=[dI c.debtor,dI c.creditor,dI c.sign,dI c.sum]
def Step.E:Enc Step:=⟨Step.cells,4,fun _=>rfl,fun _=>rfl⟩
def vE (s:List Claim):Sk ((List Claim)) :=
 .nsp 0 s.length
 (.brt <|
 .fin [])
 (.brf <|
 .r 3 (.andl (.o [.nrm (qk Claim.E ([]:List Claim))]) (.andl (.o [.nrm (gy Claim.E ([]:List Claim) s)]) (.andl (.t (Claim.E.src s)) (.p (szP (([]:List Claim).length) s.length 72))))) fun _ =>
 .fin (([]:List Claim)++s))
def slices_Clone (s:List Claim):(List Claim):=(vE s).val
theorem zcW (s:List Claim):(vE s).pst (fun (x:(List Claim))=>x.length=s.length∧x=s):=by
  unfold vE
  simp [Sk.pst,qk,gy]
theorem za3 (s:List Claim):(fun (x:(List Claim))=>x.length=s.length∧x=s) (slices_Clone s):=have h:=Sk.pval _ (zcW s); h
theorem zeA (s:List Claim) (hs:s.length≤1000000000):(vE s).obs (fun _=>True):=by
  unfold vE
  exact okD

theorem zcV (s:List Claim) (hs:s.length≤1000000000):FnA Tryz.prog 122 [lv Claim.cells s] [] (ow 777777 (slices_Clone s)) [(777777,jz 67 9 Claim.cells (slices_Clone s))] :=
  FnA.sk tok mixed (fun x=>ow 777777 x) (fun x=>[(777777,jz 67 9 Claim.cells x)]) Tryz.func122 rfl (by kernel_rfl) 3000 (vE s) (by kernel_rfl) (zeA s hs)
def Vk (κ:Nat) (s:List Claim):vT ((List Claim)):=⟨Tryz.prog,122,[lv Claim.cells s],fun x=>ow κ x,fun x=>[(κ,jz 67 9 Claim.cells x)],slices_Clone s,(s.length≤1000000000),fun h=>FnA.rekey κ (zcV s h),fun (x:(List Claim))=>x.length=s.length∧x=s,za3 s⟩
def Vv (a:jI) (stranger:Bool) (c_:Claim):Sk (Bool) :=
 .fin ((c_.creditor == a.to_)||((c_.creditor == (-1))&&stranger))
def uG (a:jI) (stranger:Bool) (c_:Claim):Bool:=(Vv a stranger c_).val
theorem uU (a:jI) (stranger:Bool) (c_:Claim):uG a stranger c_=((c_.creditor == a.to_)||((c_.creditor == (-1))&&stranger)):=rfl
theorem zjT (a:jI) (stranger:Bool) (c_:Claim):(Vv a stranger c_).obs (fun _=>True):=by
  unfold Vv
  exact okE

def Hf (a:jI) (stranger:Bool) (c_:Claim):Ctr (Bool):=kk tok mixed Tryz.func123 [av a.cells,bv stranger,av c_.cells] (fun x=>bv x) true (Vv a stranger c_) (uG a stranger c_) (fun (_:True)=>zjT a stranger c_)
structure Key where
  debtor:Int
  creditor:Int
  part:Int
  sign:Int
  by_:Int
  deriving Inhabited
def Key.cells (c:Key):List D:=[dI c.debtor,dI c.creditor,dI c.part,dI c.sign,dI c.by_]
def Key.E:Enc Key:=⟨Key.cells,5,fun _=>rfl,fun _=>rfl⟩
def Fg (c_:Claim):Sk (Key) :=
 .fin ({ debtor:=c_.debtor,creditor:=c_.creditor,part:=c_.part,sign:=c_.sign,by_:=c_.by_ }:Key)
def zqG (c_:Claim):Key:=(Fg c_).val
theorem Fs (c_:Claim):zqG c_=({ debtor:=c_.debtor,creditor:=c_.creditor,part:=c_.part,sign:=c_.sign,by_:=c_.by_ }:Key):=rfl
theorem zoZ (c_:Claim):(Fg c_).obs (fun _=>True):=by
  unfold Fg
  exact okE

def ZH (c_:Claim):Ctr (Key):=kk tok mixed Tryz.func158 [av c_.cells] (fun x=>av x.cells) true (Fg c_) (zqG c_) (fun (_:True)=>zoZ c_)
def Yg (a:Int) (b:Int):Sk (Int) :=
 .r 1 (.andl (.o [.nrm (qk kA [a,b])]) ((ZA [a,b]).c)) fun x1 =>
 .fin x1
def zY (a:Int) (b:Int):Int:=(Yg a b).val
theorem zm0 (a:Int) (b:Int):(Yg a b).obs (fun _=>True):=by
  unfold Yg
  try simp only [ZA]
  exact okE

def zA (a:Int) (b:Int):Ctr (Int):=kk tok mixed Tryz.func25 [iv a,iv b] (fun x=>iv x) true (Yg a b) (zY a b) (fun (_:True)=>zm0 a b)
end
end Go.Proofs.YtilbddpghnnmhaaGreatDoor

