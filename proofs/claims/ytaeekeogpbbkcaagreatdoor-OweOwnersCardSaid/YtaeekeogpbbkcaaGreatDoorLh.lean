/- Functions, as sketches. -/
import Derived.Test.YtaeekeogpbbkcaaGreatDoorLg
set_option linter.unusedSimpArgs false
set_option linter.unusedVariables false
set_option maxHeartbeats 1000000
set_option maxRecDepth 100000
namespace Go.Proofs.YtaeekeogpbbkcaaGreatDoor
noncomputable section
open Go Go.Av
/-- half a UC: Pv aht in two aeX,Pv first one adV; a digit follows -/
def HY (y1 y0 u d:Int):Prop:=(2147483648≤y1∧y1 < 4294967296)∧(0≤y0∧y0 < 4294967296)∧(0≤u∧u < y1 * 4294967296+y0)∧0≤d∧d < 4294967296
/-- a quotient YV may be too adV -/
def HI (y1 y0 u d q r:Int):Prop:=(0≤q∧q < 18446744073709551616)∧q * y1+r=u∧(0≤r∧r < 4294967296)∧u * 4294967296+d < 4294967296 * (q * y1)+4294967296 * y1+q * y0+y0
/-- Pv quotient -/
def HQ (y1 y0 u d q:Int):Prop:=(0≤q∧q < 4294967296)∧4294967296 * (q * y1)+q * y0≤u * 4294967296+d∧u * 4294967296+d < 4294967296 * (q * y1)+4294967296 * y1+q * y0+y0
theorem Ds {y1 y0 u d:Int} (h:HY y1 y0 u d):HI y1 y0 u d (IntKind.u64.wrap (u.tdiv y1)) (IntKind.u64.wrap (u - IntKind.u64.wrap (IntKind.u64.wrap (u.tdiv y1) * y1))):=by
  obtain ⟨h1,h2,h3,h4⟩:=h
  have e:u.tdiv y1=u / y1:=Int.tdiv_eq_ediv_of_nonneg h3.1
  have q0:0≤u / y1:=Int.ediv_nonneg h3.1 (by omega)
  have q1:u / y1≤u:=Int.ediv_le_self _ h3.1
  have m1:=Int.mul_ediv_add_emod u y1
  have m2:=Int.emod_nonneg u (b:=y1) (by omega)
  have m3:=Int.emod_lt_of_pos u (b:=y1) (by omega)
  rw [e,fa q0 (by omega)]
  rw [Int.mul_comm y1] at m1
  rw [fa (n:=u / y1 * y1) (Int.mul_nonneg q0 (by omega)) (by omega),fa (by omega) (by omega)]
  have:=Int.mul_nonneg q0 h2.1
  refine ⟨⟨q0,by omega⟩,by omega,⟨by omega,by omega⟩,by omega⟩
theorem P5 {y1 y0 u d q r:Int} (h:HY y1 y0 u d) (hi:HI y1 y0 u d q r):(decide (q≥4294967296)||decide (IntKind.u64.wrap (q * y0) > IntKind.u64.wrap (IntKind.u64.wrap (4294967296 * r)+d)))=decide (q≥4294967296∨q * y0 > 4294967296 * r+d):=by
  obtain ⟨h1,h2,h3,h4⟩:=h
  obtain ⟨i1,i2,i3,i4⟩:=hi
  rw [fa (n:=4294967296 * r) (by omega) (by omega),fa (n:=4294967296 * r+d) (by omega) (by omega)]
  by_cases c:q≥4294967296
  · simp [c]
  · have a:q * y0≤4294967295 * y0:=Int.mul_le_mul_of_nonneg_right (by omega) h2.1
    rw [fa (n:=q * y0) (Int.mul_nonneg i1.1 h2.1) (by omega)]
    simp [c]
theorem Dt {y1 y0 u d q r:Int} (h:HY y1 y0 u d) (hi:HI y1 y0 u d q r) (hc:(decide (q≥4294967296)||decide (IntKind.u64.wrap (q * y0) > IntKind.u64.wrap (IntKind.u64.wrap (4294967296 * r)+d)))=true) :
    (IntKind.u64.wrap (q - 1)).toNat < q.toNat∧(IntKind.u64.wrap (r+y1)≥4294967296→HQ y1 y0 u d (IntKind.u64.wrap (q - 1)))∧(IntKind.u64.wrap (r+y1) < 4294967296→HI y1 y0 u d (IntKind.u64.wrap (q - 1)) (IntKind.u64.wrap (r+y1))):=by
  rw [P5 h hi,decide_eq_true_eq] at hc
  obtain ⟨h1,h2,h3,h4⟩:=h
  obtain ⟨i1,i2,i3,i4⟩:=hi
  have hy:u * 4294967296+d < 4294967296 * (q * y1)+q * y0:=by
    rcases hc with c | c
    · have a:4294967296 * y1≤q * y1:=Int.mul_le_mul_of_nonneg_right c (by omega)
      have b:4294967296 * y0≤q * y0:=Int.mul_le_mul_of_nonneg_right c h2.1
      omega
    · omega
  have hq:1≤q:=by
    rcases Int.lt_or_le q 1 with c | c
    · obtain rfl:q=0:=by omega
      simp only [Int.zero_mul] at hy i2
      omega
    · exact c
  have e1:(q - 1) * y1=q * y1 - y1:=by rw [Int.sub_mul,Int.one_mul]
  have e0:(q - 1) * y0=q * y0 - y0:=by rw [Int.sub_mul,Int.one_mul]
  rw [fa (n:=q - 1) (by omega) (by omega),fa (n:=r+y1) (by omega) (by omega)]
  refine ⟨by omega,fun hr=>?_,fun hr=>?_⟩
  · have hB:q - 1 < 4294967296:=by
      rcases Int.lt_or_le (q - 1) 4294967296 with c | c
      · exact c
      · have a:4294967296 * y1≤(q - 1) * y1:=Int.mul_le_mul_of_nonneg_right c (by omega)
        omega
    have a:(q - 1) * y0≤4294967295 * y0:=Int.mul_le_mul_of_nonneg_right (by omega) h2.1
    refine ⟨⟨by omega,hB⟩,?_,?_⟩
    · rw [e1]; omega
    · rw [e1,e0]; omega
  · refine ⟨⟨by omega,by omega⟩,by rw [e1]; omega,⟨by omega,hr⟩,by rw [e1,e0]; omega⟩
theorem Du {y1 y0 u d q r:Int} (h:HY y1 y0 u d) (hi:HI y1 y0 u d q r) (hc:(decide (q≥4294967296)||decide (IntKind.u64.wrap (q * y0) > IntKind.u64.wrap (IntKind.u64.wrap (4294967296 * r)+d)))=false):HQ y1 y0 u d q:=by
  rw [P5 h hi,decide_eq_false_iff_not] at hc
  obtain ⟨i1,i2,i3,i4⟩:=hi
  exact ⟨by omega,by omega,i4⟩
/-- ad7 is left -/
theorem zu {y1 y0 u d q:Int} (h:HY y1 y0 u d) (hq:HQ y1 y0 u d q):IntKind.u64.wrap (IntKind.u64.wrap (IntKind.u64.wrap (u * 4294967296)+d) - IntKind.u64.wrap (q * (y1 * 4294967296+y0)))=u * 4294967296+d - q * (y1 * 4294967296+y0)∧0≤u * 4294967296+d - q * (y1 * 4294967296+y0)∧u * 4294967296+d - q * (y1 * 4294967296+y0) < y1 * 4294967296+y0:=by
  obtain ⟨h1,h2,h3,h4⟩:=h
  obtain ⟨i1,i2,i3⟩:=hq
  have e:q * (y1 * 4294967296+y0)=4294967296 * (q * y1)+q * y0:=by rw [Int.mul_add,← Int.mul_assoc,Int.mul_comm (q * y1)]
  refine ⟨?_,by omega,by omega⟩
  simp only [Lx]
  omega
theorem aeY {k:Nat} {q b:Int} (hq:0≤q) (hb:0≤b) (Bb:b < 2 ^ k) (ha:q * 2 ^ k+b < 18446744073709551616):WJ .u64 (q * 2 ^ k) b=q * 2 ^ k+b:=by
  obtain ⟨q,rfl⟩:=Int.eq_ofNat_of_zero_le hq
  obtain ⟨b,rfl⟩:=Int.eq_ofNat_of_zero_le hb
  have e:((q:Int) * 2 ^ k)=((q * 2 ^ k:Nat):Int):=by simp
  have Jn:b < 2 ^ k:=by
    have e2:((2:Int) ^ k)=((2 ^ k:Nat):Int):=by simp
    rw [e2] at Bb
    exact_mod_cast Bb
  rw [e] at ha ⊢
  unfold WJ
  have gJ:q * 2 ^ k+b < 18446744073709551616:=by omega
  have h1:(BitVec.ofInt IntKind.u64.bits ((q * 2 ^ k:Nat):Int) ||| BitVec.ofInt IntKind.u64.bits ((b:Nat):Int)).toNat=q * 2 ^ k+b:=by
    rw [BitVec.toNat_or,BitVec.ofInt_natCast,BitVec.ofInt_natCast,BitVec.toNat_ofNat,BitVec.toNat_ofNat]
    have hb:IntKind.u64.bits=64:=rfl
    rw [hb,Nat.mod_eq_of_lt (by omega),Nat.mod_eq_of_lt (by omega),← Nat.shiftLeft_eq,← Nat.shiftLeft_add_eq_or_of_lt Jn,Nat.shiftLeft_eq]
  rw [h1,fa (by omega) (by omega)]
  omega
theorem Ky {a:Int} (h0:0≤a) (h1:a < 18446744073709551616):dh .u64 a 4294967295=a % 4294967296:=by
  obtain ⟨a,rfl⟩:=Int.eq_ofNat_of_zero_le h0
  unfold dh
  have h2:(BitVec.ofInt IntKind.u64.bits ((a:Nat):Int) &&& BitVec.ofInt IntKind.u64.bits 4294967295).toNat=a % 4294967296:=by
    have e:(4294967295:Int)=((4294967295:Nat):Int):=rfl
    rw [e,BitVec.toNat_and,BitVec.ofInt_natCast,BitVec.ofInt_natCast,BitVec.toNat_ofNat,BitVec.toNat_ofNat]
    have hb:IntKind.u64.bits=64:=rfl
    rw [hb,Nat.mod_eq_of_lt (by omega),Nat.mod_eq_of_lt (by omega)]
    exact Nat.and_two_pow_sub_one_eq_mod a 32
  rw [h2,fa (by omega) (by omega)]
  omega
/-- Pv parts of a UC,made adV -/
theorem P6 {hi lo y s:Int} (hy:0≤hi∧hi < y∧y < 18446744073709551616∧0≤lo∧lo < 18446744073709551616) (hs:0≤s∧s≤63∧9223372036854775808≤y * 2 ^ s.toNat∧y * 2 ^ s.toNat < 18446744073709551616) :
    ∃ U L:Int,WJ .u64 (fC .u64 hi (IntKind.u64.wrap s)) (dW .u64 lo (IntKind.u64.wrap ((64:Int) - IntKind.u64.wrap s)))=U∧fC .u64 lo (IntKind.u64.wrap s)=L∧fC .u64 y (IntKind.u64.wrap s)=y * 2 ^ s.toNat ∧
      (0≤L∧L < 18446744073709551616)∧(0≤U∧U < y * 2 ^ s.toNat)∧(hi * 18446744073709551616+lo) * 2 ^ s.toNat=U * 18446744073709551616+L:=by
  obtain ⟨h1,h2,h3,h4,h5⟩:=hy
  obtain ⟨s1,s2,s3,s4⟩:=hs
  have ew:IntKind.u64.wrap s=s:=fa s1 (by omega)
  have ew2:IntKind.u64.wrap (64 - s)=64 - s:=fa (by omega) (by omega)
  rw [ew,ew2,WN (by omega),WN (by omega),WN (by omega),Hv .u64 (b:=64 - s) (by show 0≤64 - s∧64 - s≤64; omega)]
  generalize hp:(2:Int) ^ s.toNat=p at *
  have hP:(18446744073709551616:Int)=2 ^ (64 - s).toNat * p:=by rw [← hp,← Int.pow_add,show (64 - s).toNat+s.toNat=64 by omega]; rfl
  generalize hq:(2:Int) ^ (64 - s).toNat=P at *
  have p0:0 < p:=by rw [← hp]; exact Int.pow_pos (by omega)
  have P0:0 < P:=by rw [← hq]; exact Int.pow_pos (by omega)
  have hip:hi * p≤(y - 1) * p:=Int.mul_le_mul_of_nonneg_right (by omega) (by omega)
  have aiJ:0≤hi * p:=Int.mul_nonneg h1 (by omega)
  have e1:(y - 1) * p=y * p - p:=by rw [Int.sub_mul,Int.one_mul]
  have b0:0≤lo / P:=Int.ediv_nonneg h4 (by omega)
  have b1:lo / P < p:=by
    rw [Int.ediv_lt_iff_lt_mul P0,Int.mul_comm]
    omega
  have eh:hi * p % 18446744073709551616=hi * p:=Int.emod_eq_of_lt aiJ (by omega)
  have ey:y * p % 18446744073709551616=y * p:=Int.emod_eq_of_lt (by omega) s4
  have el:lo * p / 18446744073709551616=lo / P:=by rw [hP]; exact Int.mul_ediv_mul_of_pos_left _ _ p0
  have hor:WJ .u64 (hi * p) (lo / P)=hi * p+lo / P:=by
    rw [← hp]
    exact aeY h1 b0 (by rw [hp]; exact b1) (by rw [hp]; omega)
  refine ⟨hi * p+lo / P,lo * p % 18446744073709551616,by rw [eh]; exact hor,rfl,ey,⟨by omega,by omega⟩,⟨by omega,by omega⟩,?_⟩
  have m:=Int.mul_ediv_add_emod (lo * p) 18446744073709551616
  rw [el] at m
  have e2:(hi * 18446744073709551616+lo) * p=hi * p * 18446744073709551616+lo * p:=by rw [Int.add_mul,Int.mul_right_comm]
  rw [e2]
  omega
/-- Pv whole UC out of its aeX -/
theorem ZK {N y p U L q1 q0:Int} (hy:0 < y) (hp:0 < p) (hY:9223372036854775808≤y * p∧y * p < 18446744073709551616) (hL:0≤L∧L < 18446744073709551616) (hU:0≤U∧U < y * p) (hN:N * p=U * 18446744073709551616+L)
    (h1:HQ (y * p / 4294967296) (y * p % 4294967296) U (L / 4294967296) q1)
    (h0:HQ (y * p / 4294967296) (y * p % 4294967296) (U * 4294967296+L / 4294967296 - q1 * (y * p)) (L % 4294967296) q0) :
    IntKind.u64.wrap (IntKind.u64.wrap (q1 * 4294967296)+q0)=N / y ∧
      ((U * 4294967296+L / 4294967296 - q1 * (y * p)) * 4294967296+L % 4294967296 - q0 * (y * p)) / p=N % y:=by
  have eY:y * p / 4294967296 * 4294967296+y * p % 4294967296=y * p:=by omega
  have VW:HY (y * p / 4294967296) (y * p % 4294967296) U (L / 4294967296):=⟨⟨by omega,by omega⟩,⟨by omega,by omega⟩,⟨by omega,by omega⟩,by omega,by omega⟩
  have r1:=zu VW h1
  rw [eY] at r1
  have Ti:HY (y * p / 4294967296) (y * p % 4294967296) (U * 4294967296+L / 4294967296 - q1 * (y * p)) (L % 4294967296):=⟨⟨by omega,by omega⟩,⟨by omega,by omega⟩,⟨by omega,by omega⟩,by omega,by omega⟩
  have r0:=zu Ti h0
  rw [eY] at r0
  have i1:=h1.1
  have i0:=h0.1
  rw [fa (n:=q1 * 4294967296) (by omega) (by omega),fa (by omega) (by omega)]
  generalize hR:(U * 4294967296+L / 4294967296 - q1 * (y * p)) * 4294967296+L % 4294967296 - q0 * (y * p)=R at *
  have e:(q1 * 4294967296+q0) * (y * p)=q1 * (y * p) * 4294967296+q0 * (y * p):=by rw [Int.add_mul,Int.mul_right_comm]
  have hq:N * p=(q1 * 4294967296+q0) * (y * p)+R:=by rw [e]; omega
  have hR2:R=(N - (q1 * 4294967296+q0) * y) * p:=by rw [Int.sub_mul,Int.mul_assoc]; omega
  have QK:0≤N - (q1 * 4294967296+q0) * y:=by
    rcases Int.lt_or_le (N - (q1 * 4294967296+q0) * y) 0 with c | c
    · have:=Int.mul_neg_of_neg_of_pos c hp
      omega
    · exact c
  have gJ:N - (q1 * 4294967296+q0) * y < y:=by
    rcases Int.lt_or_le (N - (q1 * 4294967296+q0) * y) y with c | c
    · exact c
    · have:=Int.mul_le_mul_of_nonneg_right c (Int.le_of_lt hp)
      omega
  have hd:N / y=q1 * 4294967296+q0:=by
    rw [Int.ediv_eq_iff_of_pos hy]
    constructor
    · omega
    · omega
  refine ⟨hd.symm,?_⟩
  rw [hR2,Int.mul_ediv_cancel _ (by omega),Int.emod_def,hd,Int.mul_comm y]
def lS (hi:Int) (lo:Int) (y:Int):Sk (Int × Int) :=
 .bind false (fun _=>True)
 (.br (y == 0)
 (.dead default)
 (.fin (.inr ())))
 (fun (_:Unit)=>⟨[],[]⟩) fun _ =>
 .bind false (fun _=>True)
 (.br (decide (y≤hi))
 (.dead default)
 (.fin (.inr ())))
 (fun (_:Unit)=>⟨[],[]⟩) fun _ =>
 .br (hi == 0)
 (.r 6 (.aj (.p (y≠0)) (.p (y≠0))) fun _ =>
 .fin (IntKind.u64.wrap (lo.tdiv y),lo.tmod y))
 (.r 7 ((l9 y).c) fun x3=>let az:=(IntKind.u64.wrap (x3)); let aV:=(IntKind.u64.wrap ((64:Int) - az));
 .r 8 (.p (0≤az)) fun _ =>
 .r 9 (.p (0≤(32:Int))) fun _ =>
 .r 11 (.aj (.p (0≤az)) (.p (0≤aV))) fun _ =>
 .r 12 (.p (0≤az)) fun _ =>
 .r 13 (.p (0≤(32:Int))) fun _ =>
 .r 15 (.p ((dW .u64 (fC .u64 y az) 32)≠0)) fun _ =>
 .bind true (fun b4=>HQ (dW .u64 (fC .u64 y az) 32) (dh .u64 (fC .u64 y az) 4294967295) (WJ .u64 (fC .u64 hi az) (dW .u64 lo aV)) (dW .u64 (fC .u64 lo az) 32) b4.1)
 (.loop (default:Sum (Int × Int) (Int × Int)) (fun i5=>HI (dW .u64 (fC .u64 y az) 32) (dh .u64 (fC .u64 y az) 4294967295) (WJ .u64 (fC .u64 hi az) (dW .u64 lo aV)) (dW .u64 (fC .u64 lo az) 32) i5.1 i5.2) (fun i5=>i5.1.toNat) ((IntKind.u64.wrap ((WJ .u64 (fC .u64 hi az) (dW .u64 lo aV)).tdiv (dW .u64 (fC .u64 y az) 32)),IntKind.u64.wrap ((WJ .u64 (fC .u64 hi az) (dW .u64 lo aV)) - (IntKind.u64.wrap ((IntKind.u64.wrap ((WJ .u64 (fC .u64 hi az) (dW .u64 lo aV)).tdiv (dW .u64 (fC .u64 y az) 32))) * (dW .u64 (fC .u64 y az) 32))))):Int × Int)
 (fun (i5:Int × Int)=>⟨[(15,.d (.v (.int .u64 i5.1))),(16,.d (.v (.int .u64 i5.2)))],[]⟩) fun i5 =>
 .br ((decide (i5.1≥4294967296))||(decide ((IntKind.u64.wrap (i5.1 * (dh .u64 (fC .u64 y az) 4294967295))) > (IntKind.u64.wrap ((IntKind.u64.wrap ((4294967296:Int) * i5.2))+(dW .u64 (fC .u64 lo az) 32))))))
 (.br (decide ((IntKind.u64.wrap (i5.2+(dW .u64 (fC .u64 y az) 32)))≥4294967296))
 (.fin (.inl (.inr (IntKind.u64.wrap (i5.1 - 1),IntKind.u64.wrap (i5.2+(dW .u64 (fC .u64 y az) 32))))))
 (.fin (.inr (IntKind.u64.wrap (i5.1 - 1),IntKind.u64.wrap (i5.2+(dW .u64 (fC .u64 y az) 32))))))
 (.fin (.inl (.inr (i5.1,i5.2)))))
 (fun (b4:Int × Int)=>⟨[(15,.d (.v (.int .u64 b4.1))),(16,.d (.v (.int .u64 b4.2)))],[]⟩) fun b4 =>
 .r 22 (.p ((dW .u64 (fC .u64 y az) 32)≠0)) fun _ =>
 .bind true (fun b6=>HQ (dW .u64 (fC .u64 y az) 32) (dh .u64 (fC .u64 y az) 4294967295) (IntKind.u64.wrap ((IntKind.u64.wrap ((IntKind.u64.wrap ((WJ .u64 (fC .u64 hi az) (dW .u64 lo aV)) * 4294967296))+(dW .u64 (fC .u64 lo az) 32))) - (IntKind.u64.wrap (b4.1 * (fC .u64 y az))))) (dh .u64 (fC .u64 lo az) 4294967295) b6)
 (.loop (default:Sum (Int × Int) (Int)) (fun i7=>HI (dW .u64 (fC .u64 y az) 32) (dh .u64 (fC .u64 y az) 4294967295) (IntKind.u64.wrap ((IntKind.u64.wrap ((IntKind.u64.wrap ((WJ .u64 (fC .u64 hi az) (dW .u64 lo aV)) * 4294967296))+(dW .u64 (fC .u64 lo az) 32))) - (IntKind.u64.wrap (b4.1 * (fC .u64 y az))))) (dh .u64 (fC .u64 lo az) 4294967295) i7.2 i7.1) (fun i7=>i7.2.toNat) ((IntKind.u64.wrap ((IntKind.u64.wrap ((IntKind.u64.wrap ((IntKind.u64.wrap ((WJ .u64 (fC .u64 hi az) (dW .u64 lo aV)) * 4294967296))+(dW .u64 (fC .u64 lo az) 32))) - (IntKind.u64.wrap (b4.1 * (fC .u64 y az))))) - (IntKind.u64.wrap ((IntKind.u64.wrap ((IntKind.u64.wrap ((IntKind.u64.wrap ((IntKind.u64.wrap ((WJ .u64 (fC .u64 hi az) (dW .u64 lo aV)) * 4294967296))+(dW .u64 (fC .u64 lo az) 32))) - (IntKind.u64.wrap (b4.1 * (fC .u64 y az))))).tdiv (dW .u64 (fC .u64 y az) 32))) * (dW .u64 (fC .u64 y az) 32)))),IntKind.u64.wrap ((IntKind.u64.wrap ((IntKind.u64.wrap ((IntKind.u64.wrap ((WJ .u64 (fC .u64 hi az) (dW .u64 lo aV)) * 4294967296))+(dW .u64 (fC .u64 lo az) 32))) - (IntKind.u64.wrap (b4.1 * (fC .u64 y az))))).tdiv (dW .u64 (fC .u64 y az) 32))):Int × Int)
 (fun (i7:Int × Int)=>⟨[(16,.d (.v (.int .u64 i7.1))),(18,.d (.v (.int .u64 i7.2)))],[]⟩) fun i7 =>
 .br ((decide (i7.2≥4294967296))||(decide ((IntKind.u64.wrap (i7.2 * (dh .u64 (fC .u64 y az) 4294967295))) > (IntKind.u64.wrap ((IntKind.u64.wrap ((4294967296:Int) * i7.1))+(dh .u64 (fC .u64 lo az) 4294967295))))))
 (.br (decide ((IntKind.u64.wrap (i7.1+(dW .u64 (fC .u64 y az) 32)))≥4294967296))
 (.fin (.inl (.inr (IntKind.u64.wrap (i7.2 - 1)))))
 (.fin (.inr (IntKind.u64.wrap (i7.1+(dW .u64 (fC .u64 y az) 32)),IntKind.u64.wrap (i7.2 - 1)))))
 (.fin (.inl (.inr i7.2))))
 (fun (b6:Int)=>⟨[(18,.d (.v (.int .u64 b6)))],[]⟩) fun b6 =>
 .r 28 (.p (0≤az)) fun _ =>
 .fin (IntKind.u64.wrap ((IntKind.u64.wrap (b4.1 * 4294967296))+b6),dW .u64 (IntKind.u64.wrap ((IntKind.u64.wrap ((IntKind.u64.wrap ((IntKind.u64.wrap ((IntKind.u64.wrap ((IntKind.u64.wrap ((WJ .u64 (fC .u64 hi az) (dW .u64 lo aV)) * 4294967296))+(dW .u64 (fC .u64 lo az) 32))) - (IntKind.u64.wrap (b4.1 * (fC .u64 y az))))) * 4294967296))+(dh .u64 (fC .u64 lo az) 4294967295))) - (IntKind.u64.wrap (b6 * (fC .u64 y az))))) az))
def Mj hi lo y:=(lS hi lo y).val
theorem Mk (hi:Int) (lo:Int) (y:Int) (hP:0≤hi∧hi < y∧y < 18446744073709551616∧0≤lo∧lo < 18446744073709551616):(lS hi lo y).dq (fun (x:Int × Int)=>x.1=(hi * 18446744073709551616+lo) / y∧x.2=(hi * 18446744073709551616+lo) % y):=by
  refine Sk.bh _ ?_
  unfold lS
  simp only [Sk.cK,Sk.aD,reduceCtorEq,ON,kk,kp,l9,maxLen]
  refine ⟨fun h=>by simp only [LN] at h; omega,fun _ _=>⟨fun h=>by simp only [LN] at h; omega,fun _ _=>⟨fun h0 _=>?_,fun _ x _ hx=>?_⟩⟩⟩
  · simp only [LN] at h0
    subst h0
    have e:=Int.tdiv_eq_ediv_of_nonneg (a:=lo) (b:=y) hP.2.2.2.1
    have e2:=Int.tmod_eq_emod_of_nonneg (a:=lo) (b:=y) hP.2.2.2.1
    have q0:0≤lo / y:=Int.ediv_nonneg hP.2.2.2.1 (by omega)
    have q1:lo / y≤lo:=Int.ediv_le_self _ hP.2.2.2.1
    rw [e,e2,fa q0 (by omega)]
    simp
  · have hx:=hx ⟨by omega,by omega⟩
    obtain ⟨U,L,eU,eL,eY,hL,hU,hN⟩:=P6 hP hx
    simp only [eU,eL,eY,YE]
    have hp:(0:Int) < 2 ^ x.toNat:=Int.pow_pos (by omega)
    have es:∀ a:Int,dW .u64 a (IntKind.u64.wrap x)=a / 2 ^ x.toNat:=fun a=>by
      rw [fa hx.1 (by omega)]
      exact Hv .u64 (b:=x) (by show 0≤x∧x≤64; omega)
    simp only [es]
    have hw:=fun q1 q0=>ZK (y:=y) (q1:=q1) (q0:=q0) (by omega) hp hx.2.2 hL hU hN
    generalize hYY:y * 2 ^ x.toNat=Y at *
    rw [Ky (by omega) hx.2.2.2,Ky hL.1 hL.2]
    have eY2:Y / 4294967296 * 4294967296+Y % 4294967296=Y:=by omega
    have VW:HY (Y / 4294967296) (Y % 4294967296) U (L / 4294967296):=⟨⟨by omega,by omega⟩,⟨by omega,by omega⟩,⟨by omega,by omega⟩,by omega,by omega⟩
    intro _ _ _ _ _ _
    refine ⟨⟨Ds VW,fun i hi=>⟨fun hc=>?_,fun hc=>Du VW hi hc⟩⟩,fun b hb=>?_⟩
    · have h:=Dt VW hi hc
      exact ⟨fun h2=>h.2.1 (of_decide_eq_true h2),fun h2=>⟨h.2.2 (Int.not_le.1 (of_decide_eq_false h2)),h.1⟩⟩
    · have r1:=zu VW hb
      rw [eY2] at r1
      rw [r1.1]
      have Ti:HY (Y / 4294967296) (Y % 4294967296) (U * 4294967296+L / 4294967296 - b.1 * Y) (L % 4294967296):=⟨⟨by omega,by omega⟩,⟨by omega,by omega⟩,⟨by omega,by omega⟩,by omega,by omega⟩
      intro _
      refine ⟨⟨Ds Ti,fun i hi=>⟨fun hc=>?_,fun hc=>Du Ti hi hc⟩⟩,fun q hq=>?_⟩
      · have h:=Dt Ti hi hc
        exact ⟨fun h2=>h.2.1 (of_decide_eq_true h2),fun h2=>⟨h.2.2 (Int.not_le.1 (of_decide_eq_false h2)),h.1⟩⟩
      · intro _
        have r0:=zu Ti hq
        rw [eY2] at r0
        rw [r0.1]
        exact hw _ _ hb hq

theorem J3 (hi:Int) (lo:Int) (y:Int):(fun (x:Int × Int)=>(0≤hi∧hi < y∧y < 18446744073709551616∧0≤lo∧lo < 18446744073709551616)→(x.1=(hi * 18446744073709551616+lo) / y∧x.2=(hi * 18446744073709551616+lo) % y)) (Mj hi lo y):=fun hP=>have h:=Sk.dc _ (Mk hi lo y hP); h
theorem N3 (hi:Int) (lo:Int) (y:Int) (hy:0≤hi∧hi < y∧y < 18446744073709551616∧0≤lo∧lo < 18446744073709551616):(lS hi lo y).bq (fun _=>True):=by
  refine Sk.aO _ ?_
  unfold lS
  simp only [Sk.gx,Sk.aD,reduceCtorEq,ON,kk,kp,l9,maxLen]
  refine ⟨fun h=>by simp only [LN] at h; omega,fun _ _=>⟨fun h=>by simp only [LN] at h; omega,fun _ _=>⟨fun _=>by omega,fun _=>⟨by omega,fun x _ hx=>?_⟩⟩⟩⟩
  have hx:=hx ⟨by omega,by omega⟩
  obtain ⟨U,L,eU,eL,eY,hL,hU,hN⟩:=P6 hy hx
  simp only [eU,eL,eY,YE]
  have hp:(0:Int) < 2 ^ x.toNat:=Int.pow_pos (by omega)
  generalize hYY:y * 2 ^ x.toNat=Y at *
  rw [Ky (by omega) hx.2.2.2,Ky hL.1 hL.2]
  have eY2:Y / 4294967296 * 4294967296+Y % 4294967296=Y:=by omega
  have hn:Y / 4294967296≠0:=by omega
  have VW:HY (Y / 4294967296) (Y % 4294967296) U (L / 4294967296):=⟨⟨by omega,by omega⟩,⟨by omega,by omega⟩,⟨by omega,by omega⟩,by omega,by omega⟩
  refine ⟨(j9 _).1,fun _=>⟨by decide,fun _=>⟨⟨(j9 _).1,(j9 _).1⟩,fun _=>⟨(j9 _).1,fun _=>⟨by decide,fun _=>⟨hn,fun _=>⟨⟨Ds VW,fun i hi=>⟨fun hc=>?_,fun hc=>Du VW hi hc⟩⟩,fun b hb=>⟨hn,fun _=>?_⟩⟩⟩⟩⟩⟩⟩⟩
  · have h:=Dt VW hi hc
    exact ⟨fun h2=>h.2.1 (of_decide_eq_true h2),fun h2=>⟨h.2.2 (Int.not_le.1 (of_decide_eq_false h2)),h.1⟩⟩
  · have r1:=zu VW hb
    rw [eY2] at r1
    rw [r1.1]
    have Ti:HY (Y / 4294967296) (Y % 4294967296) (U * 4294967296+L / 4294967296 - b.1 * Y) (L % 4294967296):=⟨⟨by omega,by omega⟩,⟨by omega,by omega⟩,⟨by omega,by omega⟩,by omega,by omega⟩
    refine ⟨⟨Ds Ti,fun i hi=>⟨fun hc=>?_,fun hc=>Du Ti hi hc⟩⟩,fun q hq=>(j9 _).1⟩
    have h:=Dt Ti hi hc
    exact ⟨fun h2=>h.2.1 (of_decide_eq_true h2),fun h2=>⟨h.2.2 (Int.not_le.1 (of_decide_eq_false h2)),h.1⟩⟩

def nP hi lo y:=kk tok mixed Tryz.func176 [.d (.v (.int .u64 hi)),.d (.v (.int .u64 lo)),.d (.v (.int .u64 y))] (fun x=>.fb [.d (.v (.int .u64 x.1)),.d (.v (.int .u64 x.2))]) true (lS hi lo y) (Mj hi lo y) (N3 hi lo y) (fun (x:Int × Int)=>(0≤hi∧hi < y∧y < 18446744073709551616∧0≤lo∧lo < 18446744073709551616)→(x.1=(hi * 18446744073709551616+lo) / y∧x.2=(hi * 18446744073709551616+lo) % y)) (J3 hi lo y)
def lT (a:Int) (b:Int) (c_:Int):Sk (Int × Int × Bool) :=
 .r 1 ((il (IntKind.u64.wrap (a)) (IntKind.u64.wrap (b))).c) fun x1 =>
 .br (decide (x1.1≥(IntKind.u64.wrap (c_))))
 (.fin (0,0,false))
 (.r 4 ((nP x1.1 x1.2 (IntKind.u64.wrap (c_))).c) fun x2 =>
 .br (decide (x2.1 > 1099511627776))
 (.fin (0,0,false))
 (.fin (aK (x2.1),aK (x2.2),true)))
def Ml a b c_:=(lT a b c_).val
theorem Mm (a:Int) (b:Int) (c_:Int) (hP:(0≤a∧a≤9223372036854775807)∧(0≤b∧b≤9223372036854775807)∧0 < c_∧c_≤9223372036854775807):(lT a b c_).dq (fun (x:Int × Int × Bool)=>x.2.2=true→(0≤x.1∧x.1≤1099511627776)∧x.1=a * b / c_∧x.2.1=a * b % c_):=by
  refine Sk.bh _ ?_
  unfold lT
  simp only [Sk.cK,Sk.aD,reduceCtorEq,ON,kk,kp,nP,il,maxLen]
  obtain ⟨ha,hb,Zb,uE⟩:=hP
  rw [fa (n:=a) ha.1 (by omega),fa (n:=b) hb.1 (by omega),fa (n:=c_) (by omega) (by omega)]
  intro x _ hx
  obtain ⟨x1,x2,x3⟩:=hx ⟨⟨ha.1,by omega⟩,hb.1,by omega⟩
  intro hc y _ hy hc3
  simp only [LN] at hc hc3
  have hy:=hy ⟨x1.1,by omega,by omega,x2.1,x2.2⟩
  rw [x3] at hy
  have q0:0≤a * b / c_:=Int.ediv_nonneg (Int.mul_nonneg ha.1 hb.1) (by omega)
  have m0:=Int.emod_nonneg (a * b) (b:=c_) (by omega)
  have m1:=Int.emod_lt_of_pos (a * b) (b:=c_) Zb
  rw [aq (n:=y.1) (by omega) (by omega),aq (n:=y.2) (by omega) (by omega)]
  omega

theorem J4 (a:Int) (b:Int) (c_:Int):(fun (x:Int × Int × Bool)=>((0≤a∧a≤9223372036854775807)∧(0≤b∧b≤9223372036854775807)∧0 < c_∧c_≤9223372036854775807)→(x.2.2=true→(0≤x.1∧x.1≤1099511627776)∧x.1=a * b / c_∧x.2.1=a * b % c_)) (Ml a b c_):=fun hP=>have h:=Sk.dc _ (Mm a b c_ hP); h
theorem N4 (a:Int) (b:Int) (c_:Int):(lT a b c_).bq (fun _=>True):=by
  refine Sk.aO _ ?_
  unfold lT
  simp only [Sk.gx,Sk.aD,reduceCtorEq,ON,kk,kp,nP,il,maxLen]
  intro x _ h hc
  simp only [LN] at hc
  obtain ⟨x1,x2,-⟩:=h ⟨j9 _,j9 _⟩
  exact ⟨x1.1,by omega,(j9 _).2,x2.1,x2.2⟩

def Ay a b c_:=kk tok mixed Tryz.func172 [iv a,iv b,iv c_] (fun x=>.fb [iv x.1,iv x.2.1,bv x.2.2]) true (lT a b c_) (Ml a b c_) (u0 (N4 a b c_)) (fun (x:Int × Int × Bool)=>((0≤a∧a≤9223372036854775807)∧(0≤b∧b≤9223372036854775807)∧0 < c_∧c_≤9223372036854775807)→(x.2.2=true→(0≤x.1∧x.1≤1099511627776)∧x.1=a * b / c_∧x.2.1=a * b % c_)) (J4 a b c_)
def jO (sum:Int) (ib:Int) (from_:Int) (cr:Int) (basis:Int):Sk (Int × Int) :=
 .r 1 (.dep ((kJ sum 1099511627776).c) fun x1=>.dep (.wh (!x1) false ((kJ ib 1000).c)) fun x2=>.dep (.wh ((!x1)||(!x2)) false ((kJ from_ 100000).c)) fun x3=>.wh (((!x1)||(!x2))||(!x3)) false ((kJ cr 100000).c)) fun p6 =>
 .br ((((((!p6.1)||(!p6.2.1))||(!p6.2.2.1))||(!p6.2.2.2))||(decide (cr < from_)))||((basis != 360)&&(basis != 365)))
 (.fin (0,1))
 (.r 3 ((Ay sum (aK (ib * (aK (cr - from_)))) (aK ((1000:Int) * basis))).c) fun x5 =>
 .br (!x5.2.2)
 (.fin (0,3))
 (.fin (x5.1,0)))
def Mn sum ib from_ cr basis:=(jO sum ib from_ cr basis).val
theorem EZ (sum:Int) (ib:Int) (from_:Int) (cr:Int) (basis:Int):(jO sum ib from_ cr basis).dq (fun (x:Int × Int)=>0≤x.1∧x.1≤1099511627776):=by
  refine Sk.bh _ ?_
  unfold jO
  simp only [Sk.cK,Sk.aD,reduceCtorEq,ON,kk,kp,Ay,kJ,Bp,forall_eq,maxLen]
  refine ⟨fun _=>⟨by decide,by decide⟩,fun hc h=>⟨fun _=>⟨by decide,by decide⟩,fun uE=>?_⟩⟩
  simp only [LN] at hc uE
  have hp0:0≤ib * (cr - from_):=Int.mul_nonneg (by omega) (by omega)
  have hp1:ib * (cr - from_)≤1000 * (cr - from_):=Int.mul_le_mul_of_nonneg_right (by omega) (by omega)
  rw [aq (n:=cr - from_) (by omega) (by omega),aq (n:=ib * (cr - from_)) (by omega) (by omega),aq (n:=1000 * basis) (by omega) (by omega)] at h uE ⊢
  exact (h ⟨by omega,by omega,by omega⟩ uE).1

theorem GA (sum:Int) (ib:Int) (from_:Int) (cr:Int) (basis:Int):(jO sum ib from_ cr basis).bq (fun _=>True):=by
  unfold jO
  try simp only [Ay,kJ,Bp]
  exact xV

def rY sum ib from_ cr basis:=kp tok mixed Tryz.func127 [iv sum,iv ib,iv from_,iv cr,iv basis] (fun x=>.fb [iv x.1,iv x.2]) true (Mn sum ib from_ cr basis) (u0 (GA sum ib from_ cr basis)) (EZ sum ib from_ cr basis)
def iX (sum:Int) (oz:Int) (from_:Int) (cr:Int):Sk (Int) :=
 .r 1 ((rY sum oz from_ cr 360).c) fun x1 =>
 .br (x1.2 == 3)
 (.fin 1099511627776)
 (.fin x1.1)
def J5 sum oz from_ cr:=(iX sum oz from_ cr).val
theorem D5 (sum:Int) (oz:Int) (from_:Int) (cr:Int):(iX sum oz from_ cr).dq (fun (x:Int)=>0≤x∧x≤1099511627776):=by
  unfold iX
  try simp only [rY]
  exact Ly

theorem E0 (sum:Int) (oz:Int) (from_:Int) (cr:Int):(iX sum oz from_ cr).bq (fun _=>True):=by
  unfold iX
  try simp only [rY]
  exact mP

def qR sum oz from_ cr:=kp tok mixed Tryz.func79 [iv sum,iv oz,iv from_,iv cr] (fun x=>iv x) true (J5 sum oz from_ cr) (u0 (E0 sum oz from_ cr)) (D5 sum oz from_ cr)
structure mD where
  num:Int
  den:Int
  deriving Inhabited
def mD.cells (c:mD):List D:=[dI c.num,dI c.den]
def ng (cg:List pZ) (from_:Int) (cr:Int) (day:Int):Sk (Int) :=
 .bind true (fun b1=>b1 = -1∨(0≤b1∧b1 < (cg.length:Int)))
 (.loop (default:Sum (Int) (Int)) (fun i2=>i2.2≤cg.length∧(i2.1 = -1∨(0≤i2.1∧i2.1 < (cg.length:Int)))) (fun i2=>cg.length - i2.2) (((-1),0):Int × Nat)
 (fun (i2:Int × Nat)=>⟨[(9,iv i2.1),(14,iv ((i2.2:Nat):Int))],[]⟩) fun i2=>let cF:=((i2.2:Nat):Int); let aV:=(cg.getD i2.2 default); let az:=((((aV.from_) == from_)&&((aV.cr) == cr))&&(decide ((aV.since)≤day)));
 .lt 0 0 i2.2 cg.length
 (.r 4 (.p (bM cF cg.length)) fun _ =>
 .r 5 (.wh az true (.wh (decide (i2.1 < 0)) false (.p (bM i2.1 cg.length)))) fun _ =>
 .br (az&&((decide (i2.1 < 0))||(decide ((aV.since) > ((cg.getD i2.1.toNat default).since)))))
 (.r 7 .z fun _ =>
 .wi 14 (aK (cF+1)) ((i2.2+1:Nat):Int) <|
 .fin (.inr (cF,i2.2+1)))
 (.nx 7 14 i2.2 (i2.1,i2.2+1)))
 (.fin (.inl (.inr i2.1))))
 (fun (b1:Int)=>⟨[(9,iv b1)],[]⟩) fun b1 =>
 .fin b1
def UD cg from_ cr day:=(ng cg from_ cr day).val
theorem J6 (cg:List pZ) (from_:Int) (cr:Int) (day:Int):(ng cg from_ cr day).dq (fun (x:Int)=>x = -1∨(0≤x∧x < (cg.length:Int))):=by
  unfold ng
  exact Ly

theorem Mo (cg:List pZ) (from_:Int) (cr:Int) (day:Int):(ng cg from_ cr day).bq (fun _=>True):=by
  unfold ng
  exact mH

def sM cg from_ cr day:=kp tok mixed Tryz.func173 [lv pZ.cells cg,iv from_,iv cr,iv day] (fun x=>iv x) true (UD cg from_ cr day) (u0 (Mo cg from_ cr day)) (J6 cg from_ cr day)
def qS (n:Int):Sk (Int) :=
 .br (decide (n < 0))
 (.fin (IntKind.u64.wrap (0 - (IntKind.u64.wrap (n)))))
 (.fin (IntKind.u64.wrap (n)))
def ZL n:=(qS n).val
theorem N5 (n:Int):(qS n).dq (fun (x:Int)=>0≤x∧x < 18446744073709551616∧(0≤n→n≤9223372036854775807→x=n)):=by
  refine Sk.bh _ ?_
  unfold qS
  simp only [Sk.cK,Sk.aD,reduceCtorEq,ON,kk,kp,maxLen]
  refine ⟨fun hc=>⟨(j9 _).1,(j9 _).2,fun h=>?_⟩,fun _=>⟨(j9 _).1,(j9 _).2,fun h1 h2=>fa h1 (by omega)⟩⟩
  simp only [LN] at hc
  omega

theorem Rx (n:Int):(qS n).bq (fun _=>True):=by
  unfold qS
  exact mP

def xy n:=kp tok mixed Tryz.func225 [iv n] (fun x=>.d (.v (.int .u64 x))) true (ZL n) (u0 (Rx n)) (N5 n)
theorem abF {p q:Int} (hp:0≤p) (hq:0≤q):q.gcd (p.tmod q)=p.gcd q:=by
  obtain ⟨p,rfl⟩:=Int.eq_ofNat_of_zero_le hp
  obtain ⟨q,rfl⟩:=Int.eq_ofNat_of_zero_le hq
  rw [Int.tmod_eq_emod_of_nonneg (by omega),← Int.natCast_emod,Int.gcd_natCast_natCast,Int.gcd_natCast_natCast,Nat.gcd_comm q,Nat.gcd_comm p q,Nat.gcd_rec q p]
theorem P7 {i:Int × Int} {a b:Int} (hi:0≤i.1∧0≤i.2∧Int.gcd i.1 i.2=Int.gcd a b) (h:i.2≠0):(0≤i.2∧0≤i.1.tmod i.2∧Int.gcd i.2 (i.1.tmod i.2)=Int.gcd a b)∧(i.1.tmod i.2).toNat < i.2.toNat:=by
  have h1:=Int.tmod_nonneg i.2 hi.1
  have h2:=Int.tmod_lt_of_pos i.1 (b:=i.2) (by omega)
  exact ⟨⟨hi.2.1,h1,(abF hi.1 hi.2.1).trans hi.2.2⟩,by omega⟩
theorem YF {i:Int × Int} {a b:Int} (hi:0≤i.1∧0≤i.2∧Int.gcd i.1 i.2=Int.gcd a b) (h:i.2=0):i.1=(Int.gcd a b:Int):=by
  rw [← hi.2.2,h]
  have:=hi.1
  simp [Int.gcd_zero_right]
  omega
theorem UE {n:Int} {g:Int} (hn:1≤n∧n≤1073741824) (hg:0 < g) (hd:g∣n):1≤IntKind.u64.wrap (n.tdiv g)∧IntKind.u64.wrap (n.tdiv g)≤1073741824:=by
  have e:n.tdiv g=n / g:=Int.tdiv_eq_ediv_of_nonneg (by omega)
  have h1:g≤n:=Int.le_of_dvd (by omega) hd
  have h2:1≤n / g:=(Int.le_ediv_iff_mul_le hg).2 (by omega)
  have h3:n / g≤n:=Int.ediv_le_self _ (by omega)
  rw [e,fa (by omega) (by omega)]
  omega
def nQ (a:Int) (b:Int):Sk (Int) :=
 .bind true (fun b1=>b1=(Int.gcd a b:Int))
 (.loop (default:Sum (Int) (Int)) (fun i2=>0≤i2.1∧0≤i2.2∧Int.gcd i2.1 i2.2=Int.gcd a b) (fun i2=>i2.2.toNat) ((a,b):Int × Int)
 (fun (i2:Int × Int)=>⟨[(0,.d (.v (.int .u64 i2.1))),(1,.d (.v (.int .u64 i2.2)))],[]⟩) fun i2 =>
 .br (i2.2 != 0)
 (.r 2 (.p (i2.2≠0)) fun _ =>
 .fin (.inr (i2.2,i2.1.tmod i2.2)))
 (.fin (.inl (.inr i2.1))))
 (fun (b1:Int)=>⟨[(0,.d (.v (.int .u64 b1)))],[]⟩) fun b1 =>
 .fin b1
def P8 a b:=(nQ a b).val
theorem N6 (a:Int) (b:Int) (hP:0≤a∧0≤b):(nQ a b).dq (fun (x:Int)=>x=(Int.gcd a b:Int)):=by
  refine Sk.bh _ ?_
  unfold nQ
  simp only [Sk.cK,Sk.aD,reduceCtorEq,ON,kk,kp,maxLen]
  exact ⟨⟨hP,fun i hi=>⟨fun hc _=>P7 hi (by simpa using hc),fun hc=>YF hi (by simpa using hc)⟩⟩,fun b hb=>hb⟩

theorem Mp (a:Int) (b:Int):(fun (x:Int)=>(0≤a∧0≤b)→(x=(Int.gcd a b:Int))) (P8 a b):=fun hP=>have h:=Sk.dc _ (N6 a b hP); h
theorem Ry (a:Int) (b:Int) (ha:0≤a∧0≤b):(nQ a b).bq (fun _=>True):=by
  refine Sk.aO _ ?_
  unfold nQ
  simp only [Sk.gx,Sk.aD,reduceCtorEq,ON,kk,kp,maxLen]
  exact ⟨ha,fun i hi=>⟨fun hc=>⟨by simpa using hc,fun _=>P7 hi (by simpa using hc)⟩,fun hc=>YF hi (by simpa using hc)⟩⟩

def Cw a b:=kk tok mixed Tryz.func226 [.d (.v (.int .u64 a)),.d (.v (.int .u64 b))] (fun x=>.d (.v (.int .u64 x))) true (nQ a b) (P8 a b) (Ry a b) (fun (x:Int)=>(0≤a∧0≤b)→(x=(Int.gcd a b:Int))) (Mp a b)
structure J7 where
  hi:Int
  lo:Int
  deriving Inhabited
def J7.cells (c:J7):List D:=[.v (.int .u64 c.hi),.v (.int .u64 c.lo)]
def lU (negative:Bool) (num:J7) (den:J7):Sk (mD × Int) :=
 .br ((((decide (num.hi > 0))||(decide (den.hi > 0)))||(decide (num.lo > 1152921504606846976)))||(decide (den.lo > 1152921504606846976)))
 (.fin (({ num:=0,den:=0 }:mD),3))
 (.br negative
 (.fin (({ num:=aK (0 - (aK (num.lo))),den:=aK (den.lo) }:mD),0))
 (.fin (({ num:=aK (num.lo),den:=aK (den.lo) }:mD),0)))
def Mq negative num den:=(lU negative num den).val
theorem Mr (negative:Bool) (num:J7) (den:J7) (hP:num.hi=0∧den.hi=0∧negative=false∧(1≤num.lo∧num.lo≤1073741824)∧1≤den.lo∧den.lo≤1073741824):(lU negative num den).dq (fun (x:mD × Int)=>x.1.num=num.lo∧x.1.den=den.lo):=by
  unfold lU
  exact Ly

theorem J8 (negative:Bool) (num:J7) (den:J7):(fun (x:mD × Int)=>(num.hi=0∧den.hi=0∧negative=false∧(1≤num.lo∧num.lo≤1073741824)∧1≤den.lo∧den.lo≤1073741824)→(x.1.num=num.lo∧x.1.den=den.lo)) (Mq negative num den):=fun hP=>have h:=Sk.dc _ (Mr negative num den hP); h
theorem N7 (negative:Bool) (num:J7) (den:J7):(lU negative num den).bq (fun _=>True):=by
  unfold lU
  exact mP

def Az negative num den:=kk tok mixed Tryz.func227 [bv negative,av num.cells,av den.cells] (fun x=>.fb [av x.1.cells,iv x.2]) true (lU negative num den) (Mq negative num den) (u0 (N7 negative num den)) (fun (x:mD × Int)=>(num.hi=0∧den.hi=0∧negative=false∧(1≤num.lo∧num.lo≤1073741824)∧1≤den.lo∧den.lo≤1073741824)→(x.1.num=num.lo∧x.1.den=den.lo)) (J8 negative num den)
def oM (num:Int) (den:Int):Sk (mD × Int) :=
 .br (den == 0)
 (.fin (({ num:=0,den:=0 }:mD),1))
 (.r 3 (.dep ((xy num).c) fun _=>(xy den).c) fun p5 =>
 .r 4 ((Cw p5.1 p5.2).c) fun x3 =>
 .r 5 (.aj (.p (x3≠0)) (.aj (.p (x3≠0)) ((Az (!((decide (num < 0)) == (decide (den < 0)))) ({ hi:=0,lo:=IntKind.u64.wrap (p5.1.tdiv x3) }:J7) ({ hi:=0,lo:=IntKind.u64.wrap (p5.2.tdiv x3) }:J7)).c))) fun x4 =>
 .fin (x4.1,x4.2))
def W8 num den:=(oM num den).val
theorem Ms (num:Int) (den:Int):(oM num den).dq (fun (x:mD × Int)=>(den=0→x.2=1)∧((1≤num∧num≤1073741824)∧1≤den∧den≤1073741824→(1≤x.1.num∧x.1.num≤1073741824)∧1≤x.1.den∧x.1.den≤1073741824)):=by
  refine Sk.bh _ ?_
  unfold oM
  simp only [Sk.cK,Sk.aD,reduceCtorEq,ON,kk,kp,xy,Cw,Az,maxLen]
  refine ⟨fun hc h=>?_,fun hc x _ hx y _ hy z _ hz=>⟨fun h=>?_,fun h=>?_⟩⟩
  all_goals simp only [LN] at hc
  · omega
  · omega
  · have e1:=hx.1.2.2 (by omega) (by omega)
    have e2:=hx.2.2.2 (by omega) (by omega)
    have hg:=hy ⟨hx.1.1,hx.2.1⟩
    rw [e1,e2] at hg hz
    have QK:0 < y:=by
      rw [hg]
      have:=Int.gcd_pos_of_ne_zero_left (a:=num) den (by omega)
      omega
    have q1:=UE h.1 QK (by rw [hg]; exact Int.gcd_dvd_left ..)
    have q2:=UE h.2 QK (by rw [hg]; exact Int.gcd_dvd_right ..)
    have acz:(!decide (num < 0) == decide (den < 0))=false:=by
      rw [decide_eq_false (by omega),decide_eq_false (by omega)]; rfl
    have:=hz ⟨acz,q1,q2⟩
    omega

theorem N8 (num:Int) (den:Int) (hd:(0≤num∧num≤1073741824)∧0≤den∧den≤1073741824):(oM num den).bq (fun _=>True):=by
  refine Sk.aO _ ?_
  unfold oM
  simp only [Sk.gx,Sk.aD,reduceCtorEq,ON,kk,kp,xy,Cw,Az,maxLen]
  intro hc x _ hx
  refine ⟨⟨hx.1.1,hx.2.1⟩,fun y _ hy=>?_⟩
  simp only [LN] at hc
  have hg:=hy ⟨hx.1.1,hx.2.1⟩
  have e2:=hx.2.2.2 (by omega) (by omega)
  have:=Int.gcd_pos_of_ne_zero_right x.1 (b:=x.2) (by omega)
  omega

def AA num den:=kp tok mixed Tryz.func174 [iv num,iv den] (fun x=>.fb [av x.1.cells,iv x.2]) true (W8 num den) (N8 num den) (Ms num den)
def kK (r:ah) (from_:Int) (cr:Int) (day:Int):Sk (mD × Bool) :=
 .r 2 ((sM r.cg from_ cr day).c) fun x1=>let az:=(r.cg.getD x1.toNat default);
 .bind false (fun b2=>r.gV→(b2.1=0∧b2.2=0)∨((1≤b2.1∧b2.1≤1073741824)∧1≤b2.2∧b2.2≤1073741824))
 (.br (decide (x1≥0))
 (.r 4 (.aj (.p (bM x1 r.cg.length)) (.p (bM x1 r.cg.length))) fun _ =>
 .fin (.inr (az.num,az.den)))
 (.r 5 ((sM r.cg cr from_ day).c) fun x3=>let aV:=(r.cg.getD x3.toNat default);
 .br (decide (x3≥0))
 (.r 7 (.aj (.p (bM x3 r.cg.length)) (.p (bM x3 r.cg.length))) fun _ =>
 .fin (.inr (aV.den,aV.num)))
 (.fin (.inr (0,0)))))
 (fun (b2:Int × Int)=>⟨[(10,iv b2.1),(11,iv b2.2)],[]⟩) fun b2 =>
 .r 8 ((AA b2.1 b2.2).c) fun x4 =>
 .fin (x4.1,x4.2 == 0)
def I2 r from_ cr day:=(kK r from_ cr day).val
theorem J9 (r:ah) (from_:Int) (cr:Int) (day:Int) (hP:r.gV):(kK r from_ cr day).dq (fun (x:mD × Bool)=>x.2=true→(1≤x.1.num∧x.1.num≤1073741824)∧1≤x.1.den∧x.1.den≤1073741824):=by
  refine Sk.bh _ ?_
  unfold kK
  simp only [Sk.cK,Sk.aD,reduceCtorEq,ON,kk,kp,sM,AA,maxLen]
  intro x _ hx
  refine ⟨⟨fun hc _ hR=>?_,fun hc y _ hy=>⟨fun uE _ hR=>?_,fun _ _=>.inl trivial⟩⟩,fun b _ hb z _ hz h0=>?_⟩
  · simp only [LN] at hc
    exact .inr (hR x.toNat (by omega))
  · simp only [LN] at uE
    exact .inr ⟨(hR y.toNat (by omega)).2,(hR y.toNat (by omega)).1⟩
  · rcases hb hP with h | h
    · have:=hz.1 h.2
      rw [this] at h0
      exact absurd h0 (by decide)
    · exact hz.2 h

theorem H5 (r:ah) (from_:Int) (cr:Int) (day:Int):(fun (x:mD × Bool)=>(r.gV)→(x.2=true→(1≤x.1.num∧x.1.num≤1073741824)∧1≤x.1.den∧x.1.den≤1073741824)) (I2 r from_ cr day):=fun hP=>have h:=Sk.dc _ (J9 r from_ cr day hP); h
theorem Mt (r:ah) (from_:Int) (cr:Int) (day:Int) (hra:r.gV):(kK r from_ cr day).bq (fun _=>True):=by
  refine Sk.aO _ ?_
  unfold kK
  simp only [Sk.gx,Sk.aD,reduceCtorEq,ON,kk,kp,sM,AA,maxLen]
  intro x _ hx
  refine ⟨⟨fun hc=>⟨?_,fun _ hR=>?_⟩,fun hc y _ hy=>⟨fun uE=>⟨?_,fun _ hR=>?_⟩,fun _ _=>.inl trivial⟩⟩,fun b _ hb=>?_⟩
  · simp only [LN] at hc; omega
  · simp only [LN] at hc
    exact .inr (hR x.toNat (by omega))
  · simp only [LN] at uE; omega
  · simp only [LN] at uE
    exact .inr ⟨(hR y.toNat (by omega)).2,(hR y.toNat (by omega)).1⟩
  · rcases hb hra with h | h <;> omega

def sN r from_ cr day:=kk tok mixed Tryz.func128 [av r.cells,iv from_,iv cr,iv day] (fun x=>.fb [av x.1.cells,bv x.2]) true (kK r from_ cr day) (I2 r from_ cr day) (Mt r from_ cr day) (fun (x:mD × Bool)=>(r.gV)→(x.2=true→(1≤x.1.num∧x.1.num≤1073741824)∧1≤x.1.den∧x.1.den≤1073741824)) (H5 r from_ cr day)
theorem Rz {a b:Int} (ha:1≤a∧a≤1073741824) (hb:1≤b∧b≤1073741824):(1≤a * b∧a * b≤1152921504606846976)∧IntKind.u64.wrap (IntKind.u64.wrap a * IntKind.u64.wrap b)=a * b:=by
  have h1:1 * b≤a * b:=Int.mul_le_mul_of_nonneg_right ha.1 (by omega)
  have h2:a * b≤1073741824 * b:=Int.mul_le_mul_of_nonneg_right ha.2 (by omega)
  have h3:1≤a * b∧a * b≤1152921504606846976:=by omega
  rw [fa (n:=a) (by omega) (by omega),fa (n:=b) (by omega) (by omega),fa (by omega) (by omega)]
  exact ⟨h3,rfl⟩
theorem UF {s D W x y:Int} (hs:0≤s∧s≤1099511627776) (hD:0≤D∧D≤W) (hW:1≤W∧W≤1152921504606846976) (hx:0≤x) (hy:0≤y) (e:x * 18446744073709551616+y=s * D):x < W∧0≤s * D / W∧s * D / W≤s:=by
  have h0:0≤s * D:=Int.mul_nonneg hs.1 hD.1
  have h1:s * D≤s * W:=Int.mul_le_mul_of_nonneg_left hD.2 hs.1
  have h2:s * W≤1099511627776 * W:=Int.mul_le_mul_of_nonneg_right hs.2 (by omega)
  exact ⟨by omega,Int.ediv_nonneg h0 (by omega),Int.ediv_le_of_le_mul (by omega) h1⟩
def kL (sum:Int) (a:mD) (b:mD):Sk (Int):=let aV:=(IntKind.u64.wrap ((IntKind.u64.wrap (a.num)) * (IntKind.u64.wrap (b.num)))); let az:=(IntKind.u64.wrap ((IntKind.u64.wrap (a.den)) * (IntKind.u64.wrap (b.den))));
 .br (decide (aV≥az))
 (.fin 0)
 (.r 4 ((il (IntKind.u64.wrap (sum)) (IntKind.u64.wrap (az - aV))).c) fun x1 =>
 .r 5 ((nP x1.1 x1.2 az).c) fun x2 =>
 .fin (aK (x2.1)))
def I3 sum a b:=(kL sum a b).val
theorem Ka (sum:Int) (a:mD) (b:mD) (hP:(0≤sum∧sum≤1099511627776)∧((1≤a.num∧a.num≤1073741824)∧1≤a.den∧a.den≤1073741824)∧(1≤b.num∧b.num≤1073741824)∧1≤b.den∧b.den≤1073741824):(kL sum a b).dq (fun (x:Int)=>0≤x∧x≤1099511627776):=by
  refine Sk.bh _ ?_
  unfold kL
  simp only [Sk.cK,Sk.aD,reduceCtorEq,ON,kk,kp,nP,il,maxLen]
  obtain ⟨hs,ha,hb⟩:=hP
  obtain ⟨hk,ek⟩:=Rz (a:=a.num) (b:=b.num) ha.1 hb.1
  obtain ⟨hw,ew⟩:=Rz (a:=a.den) (b:=b.den) ha.2 hb.2
  rw [ek,ew]
  refine ⟨fun _=>⟨by decide,by decide⟩,fun hc x _ hx y _ hy=>?_⟩
  simp only [LN] at hc
  rw [fa (n:=sum) hs.1 (by omega),fa (n:=a.den * b.den - a.num * b.num) (by omega) (by omega)] at hx
  obtain ⟨h1,h2,h3⟩:=hx ⟨⟨hs.1,by omega⟩,by omega,by omega⟩
  obtain ⟨l1,l2,l3⟩:=UF hs (D:=a.den * b.den - a.num * b.num) (by omega) hw h1.1 h2.1 h3
  have hy:=(hy ⟨h1.1,l1,by omega,h2.1,h2.2⟩).1
  rw [h3] at hy
  rw [aq (by omega) (by omega)]
  omega

theorem H6 (sum:Int) (a:mD) (b:mD):(fun (x:Int)=>((0≤sum∧sum≤1099511627776)∧((1≤a.num∧a.num≤1073741824)∧1≤a.den∧a.den≤1073741824)∧(1≤b.num∧b.num≤1073741824)∧1≤b.den∧b.den≤1073741824)→(0≤x∧x≤1099511627776)) (I3 sum a b):=fun hP=>have h:=Sk.dc _ (Ka sum a b hP); h
theorem Mv (sum:Int) (a:mD) (b:mD) (hs:0≤sum∧sum≤1099511627776) (ha:(1≤a.num∧a.num≤1073741824)∧1≤a.den∧a.den≤1073741824) (hb:(1≤b.num∧b.num≤1073741824)∧1≤b.den∧b.den≤1073741824):(kL sum a b).bq (fun _=>True):=by
  refine Sk.aO _ ?_
  unfold kL
  simp only [Sk.gx,Sk.aD,reduceCtorEq,ON,kk,kp,nP,il,maxLen]
  obtain ⟨hk,ek⟩:=Rz (a:=a.num) (b:=b.num) ha.1 hb.1
  obtain ⟨hw,ew⟩:=Rz (a:=a.den) (b:=b.den) ha.2 hb.2
  rw [ek,ew]
  intro hc x _ hx
  simp only [LN] at hc
  rw [fa (n:=sum) hs.1 (by omega),fa (n:=a.den * b.den - a.num * b.num) (by omega) (by omega)] at hx
  obtain ⟨h1,h2,h3⟩:=hx ⟨⟨hs.1,by omega⟩,by omega,by omega⟩
  obtain ⟨l1,l2,l3⟩:=UF hs (D:=a.den * b.den - a.num * b.num) (by omega) hw h1.1 h2.1 h3
  exact ⟨h1.1,l1,by omega,h2.1,h2.2⟩

def yu sum a b:=kk tok mixed Tryz.func129 [iv sum,av a.cells,av b.cells] (fun x=>iv x) true (kL sum a b) (I3 sum a b) (u3 (Mv sum a b)) (fun (x:Int)=>((0≤sum∧sum≤1099511627776)∧((1≤a.num∧a.num≤1073741824)∧1≤a.den∧a.den≤1073741824)∧(1≤b.num∧b.num≤1073741824)∧1≤b.den∧b.den≤1073741824)→(0≤x∧x≤1099511627776)) (H6 sum a b)
def gq (r:ah) (b:jX) (ja:Int) (sum:Int) (from_:Int) (cr:Int):Sk (Int):=let aV:=((r.bu.getD ja.toNat default).aL); let az:=((r.aB.getD (aV.toNat) default).bj);
 .r 1 (.aj (.p (bM ja r.bu.length)) (.p (bM aV r.aB.length))) fun _ =>
 .br (az == b.bj)
 (.fin 0)
 (.r 4 ((sN r b.bj az from_).c) fun x1 =>
 .r 5 ((sN r az b.bj cr).c) fun x2 =>
 .br ((!x1.2)||(!x2.2))
 (.fin 0)
 (.r 8 ((yu sum x1.1 x2.1).c) fun x3 =>
 .fin x3))
def Bq r b ja sum from_ cr:=(gq r b ja sum from_ cr).val
theorem D6 (r:ah) (b:jX) (ja:Int) (sum:Int) (from_:Int) (cr:Int) (hP:(0≤sum∧sum≤1099511627776)∧r.gV):(gq r b ja sum from_ cr).dq (fun (x:Int)=>0≤x∧x≤1099511627776):=by
  unfold gq
  try simp only [sN,yu]
  exact Ly

theorem Cy (r:ah) (b:jX) (ja:Int) (sum:Int) (from_:Int) (cr:Int):(fun (x:Int)=>((0≤sum∧sum≤1099511627776)∧r.gV)→(0≤x∧x≤1099511627776)) (Bq r b ja sum from_ cr):=fun hP=>have h:=Sk.dc _ (D6 r b ja sum from_ cr hP); h
theorem E1 (r:ah) (b:jX) (ja:Int) (sum:Int) (from_:Int) (cr:Int) (hw:0≤ja∧ja < (r.bu.length:Int)) (hs:0≤sum∧sum≤1099511627776) (hfi:r.l6) (hra:r.gV):(gq r b ja sum from_ cr).bq (fun _=>True):=by
  refine Sk.aO _ ?_
  unfold gq
  simp only [Sk.gx,Sk.aD,reduceCtorEq,ON,kk,kp,sN,yu,maxLen]
  refine ⟨⟨hw,hfi ja.toNat (by omega)⟩,fun _ _=>⟨hra,fun x _ hx=>⟨hra,fun y _ hy hc=>?_⟩⟩⟩
  simp only [LN] at hc
  exact ⟨hs,hx hra hc.1,hy hra hc.2⟩

def qT r b ja sum from_ cr:=kk tok mixed Tryz.func81 [av r.cells,av b.cells,iv ja,iv sum,iv from_,iv cr] (fun x=>iv x) true (gq r b ja sum from_ cr) (Bq r b ja sum from_ cr) (u4 (E1 r b ja sum from_ cr)) (fun (x:Int)=>((0≤sum∧sum≤1099511627776)∧r.gV)→(0≤x∧x≤1099511627776)) (Cy r b ja sum from_ cr)
def kM (r:ah) (ai:Int) (f:aw) (sign:Int) (day:Int):Sk (JZ) :=
 .r 1 ((c9 f day).c) fun x1 =>
 .r 2 ((yq r ai f sign day).c) fun x2 =>
 .br (((!x2.2)||(decide (sign < 0)))||(decide (sign≥((x1.af.length:Nat):Int))))
 (.fin ({ sum:=0,oL:=0,Gy:=0,exchange:=0,W7:=0,rest:=0,bj:=0 }:JZ))
 (.r 6 ((dx r ai f day).c) fun x3=>let az:=({ file:=f,sign:=sign,cL:=sign,gy:=(-1),due:=x3,day:=day }:cG);
 .bind false (fun b4=>dK r f→r.gV→(0≤b4.sum∧b4.sum≤1099511627776)∧(0≤b4.oL∧b4.oL≤1099511627776)∧(0≤b4.Gy∧b4.Gy≤1099511627776)∧(0≤b4.exchange∧b4.exchange≤1099511627776))
 (.br ((x3 != (-1))&&(decide (x3≤(fB day 100000))))
 (.bind false (fun _=>True)
 (.br (f.aM.oz == 0)
 (.r 11 (.dep ((jo r ai 16 az).c) fun x6=>(qC x6).c) fun p8 =>
 .fin (.inr (fB 1000 (dk 0 p8.2))))
 (.fin (.inr f.aM.oz)))
 (fun (b5:Int)=>⟨[(18,iv b5)],[]⟩) fun b5 =>
 .r 12 ((qR x2.1.sum b5 x3 (fB day 100000)).c) fun x9 =>
 .r 13 (.dep ((jo r ai 17 az).c) fun Ju=>(gN Ju).c) fun p13 =>
 .br (p13.2 == 1)
 (.r 14 (.aj (.p (bM sign x1.af.length)) ((qT r f.aM ((x1.af.getD sign.toNat default).ja) x2.1.sum x3 (fB day 100000)).c)) fun ZI =>
 .fin (.inr ({ sum:=x2.1.sum,oL:=x9,Gy:=0,exchange:=ZI,W7:=0,rest:=0,bj:=f.aM.bj }:JZ)))
 (.fin (.inr ({ sum:=x2.1.sum,oL:=x9,Gy:=0,exchange:=0,W7:=0,rest:=0,bj:=f.aM.bj }:JZ))))
 (.fin (.inr ({ sum:=x2.1.sum,oL:=0,Gy:=0,exchange:=0,W7:=0,rest:=0,bj:=f.aM.bj }:JZ))))
 (fun (b4:JZ)=>⟨[],[(14,.box (b4.cells.map .d))]⟩) fun b4 =>
 .bind true (fun N9=>dK r f→0≤N9∧N9≤1099511627776)
 (.loop (default:Sum (JZ) (Int)) (fun i15=>i15.1≤x1.aU.length∧(dK r f→0≤i15.2∧i15.2≤1099511627776)) (fun i15=>x1.aU.length - i15.1) ((0,b4.Gy):Nat × Int)
 (fun (i15:Nat × Int)=>⟨[(116,iv ((i15.1:Nat):Int))],[(14,.box [iv b4.sum,iv b4.oL,iv i15.2,iv b4.exchange,iv b4.W7,iv b4.rest,iv b4.bj])]⟩) fun i15=>let aV:=(x1.aU.getD i15.1 default);
 .lt 114 0 i15.1 x1.aU.length
 (.r 17 (.p (bM ((i15.1:Nat):Int) x1.aU.length)) fun _ =>
 .br (((aV.kind) == 4)||((aV.kind) == 5))
 (.r 20 .z fun _ =>
 .wi 116 (aK (((i15.1:Nat):Int)+1)) ((i15.1+1:Nat):Int) <|
 .fin (.inr (i15.1+1,fB 1099511627776 (aK (i15.2+(aV.sum))))))
 (.nx 20 116 i15.1 (i15.1+1,i15.2)))
 (.fin (.inl (.inr i15.2))))
 (fun (N9:Int)=>⟨[],[(14,.box [iv b4.sum,iv b4.oL,iv N9,iv b4.exchange,iv b4.W7,iv b4.rest,iv b4.bj])]⟩) fun N9 =>
 .fin ({ b4 with Gy:=N9,rest:=fB 1099511627776 (aK ((aK ((aK (b4.sum+b4.oL))+N9))+b4.exchange)) }))
def xz r ai f sign day:=(kM r ai f sign day).val
theorem Kb (r:ah) (ai:Int) (f:aw) (sign:Int) (day:Int) (hP:dK r f∧r.gV):(kM r ai f sign day).dq (fun (x:JZ)=>0≤x.rest∧x.rest≤1099511627776):=by
  refine Sk.bh _ ?_
  unfold kM
  simp only [Sk.cK,Sk.aD,reduceCtorEq,ON,kk,kp,qT,qR,jo,dx,qC,gN,yq,c9,maxLen]
  obtain ⟨hF,hR⟩:=hP
  have aeZ:=hF.aeJ
  have hSm:=hF.small
  have hw:∀ h1:aw,h1=au f day→0≤sign→sign < (h1.af.length:Int)→0≤(h1.af.getD sign.toNat default).ja∧(h1.af.getD sign.toNat default).ja < (r.bu.length:Int):=fun h1 e a b=>by subst e; exact hF.abm day a b
  have ha:∀ h1:aw,h1=au f day→∀ q:Nat,q < h1.aU.length→0≤(h1.aU.getD q default).sum∧(h1.aU.getD q default).sum≤1099511627776:=fun h1 e q hq=>by subst e; exact (hF.Yv day).2.2.2 q hq
  all_goals (repeat' first | assumption | (apply And.intro) | (intro h))
  all_goals first | trivial | assumption | omega | (try simp only [hF,hR,aeZ,hSm,and_self,and_true,true_implies,forall_const,LN] at *) <;> first | omega | assumption | exact (hw _ ‹_=au f day› (by omega) (by omega)).1 | exact (hw _ ‹_=au f day› (by omega) (by omega)).2 | (simp (disch:=omega) only [aq] at *; omega) | (simp (disch:=omega) only [aq,fB] at *; split <;> omega) | (have hq:=ha _ ‹_=au f day› _ (Int.ofNat_lt.1 (by assumption)); simp (disch:=omega) only [aq,fB] at *; first | omega | (split <;> omega))

theorem H7 (r:ah) (ai:Int) (f:aw) (sign:Int) (day:Int):(fun (x:JZ)=>(dK r f∧r.gV)→(0≤x.rest∧x.rest≤1099511627776)) (xz r ai f sign day):=fun hP=>have h:=Sk.dc _ (Kb r ai f sign day hP); h
theorem Mw (r:ah) (ai:Int) (f:aw) (sign:Int) (day:Int) (hF:dK r f) (bn:f.Small) (bV:r.cx) (aZ:r.Small) (Mx:r.l6) (E2:r.gV):(kM r ai f sign day).bq (fun _=>True):=by
  refine Sk.aO _ ?_
  unfold kM
  simp only [Sk.gx,Sk.aD,reduceCtorEq,ON,kk,kp,qT,qR,jo,dx,qC,gN,yq,c9,maxLen]
  have aeZ:=hF.aeJ
  have hSm:=hF.small
  have hw:∀ h1:aw,h1=au f day→0≤sign→sign < (h1.af.length:Int)→0≤(h1.af.getD sign.toNat default).ja∧(h1.af.getD sign.toNat default).ja < (r.bu.length:Int):=fun h1 e a b=>by subst e; exact hF.abm day a b
  have ha:∀ h1:aw,h1=au f day→∀ q:Nat,q < h1.aU.length→0≤(h1.aU.getD q default).sum∧(h1.aU.getD q default).sum≤1099511627776:=fun h1 e q hq=>by subst e; exact (hF.Yv day).2.2.2 q hq
  all_goals (repeat' first | assumption | (apply And.intro) | (intro h))
  all_goals first | trivial | assumption | omega | (try simp only [hF,E2,aeZ,hSm,and_self,and_true,true_implies,forall_const,LN] at *) <;> first | omega | assumption | exact (hw _ ‹_=au f day› (by omega) (by omega)).1 | exact (hw _ ‹_=au f day› (by omega) (by omega)).2 | (simp (disch:=omega) only [aq] at *; omega) | (simp (disch:=omega) only [aq,fB] at *; split <;> omega) | (have hq:=ha _ ‹_=au f day› _ (Int.ofNat_lt.1 (by assumption)); simp (disch:=omega) only [aq,fB] at *; first | omega | (split <;> omega))

def yw r ai f sign day:=kk tok mixed Tryz.func34 [av r.cells,iv ai,av f.cells,iv sign,iv day] (fun x=>av x.cells) true (kM r ai f sign day) (xz r ai f sign day) (u6 (Mw r ai f sign day)) (fun (x:JZ)=>(dK r f∧r.gV)→(0≤x.rest∧x.rest≤1099511627776)) (H7 r ai f sign day)
def oO (r:ah) (ai:Int) (f:aw) (day:Int):Sk ((List Claim)) :=
 .r 1 ((zf r ai f day).c) fun x1 =>
 .br (!x1.2)
 (.fin [])
 (.r 4 ((vU r ai f day).c) fun x2 =>
 .bind true (fun b3=>b3.length≤1000000)
 (.loop (default:Sum ((List Claim)) ((List Claim))) (fun i4=>i4.1≤x1.1.view.lead.length∧i4.2.length≤i4.1 * 10000) (fun i4=>x1.1.view.lead.length - i4.1) ((0,[]):Nat × (List Claim))
 (fun (i4:Nat × (List Claim))=>⟨[(42,iv ((i4.1:Nat):Int))],[(100366,cp 49 9 Claim.cells i4.2),(12,.box [ow 100366 i4.2])]⟩) fun i4 =>
 .lt 40 0 i4.1 x1.1.view.lead.length
 (.bind true (fun b5=>b5.length≤i4.2.length+10000)
 (.r 8 (.p (bM ((i4.1:Nat):Int) x1.1.view.lead.length)) fun _ =>
 .r 9 ((gp x1.1.view (x1.1.view.lead.getD i4.1 default)).c) fun x6 =>
 .r 10 ((lq x1.1 x6).c) fun _ =>
 .bind true (fun b8=>b8.length≤i4.2.length+10000)
 (.rf (ef x1.1 x6) (fun ki9 i9=>i9.length≤i4.2.length+ki9 * 100) (fun (_:Unit)=>False) 2 (i4.2:(List Claim))
 (fun (i9:(List Claim))=>[(100534,cp 49 9 Claim.cells i9),(12,.box [ow 100534 i9])]) (fun (_:Unit)=>[])
 (fun i9 W9 =>
 .bind true (fun b12=>b12.length≤i9.length+100)
 (.r 12 ((jM x1.1.view (x1.1.view.lead.getD i4.1 default) W9.sign x6).c) fun Gv =>
 .bind true (fun N9=>N9.2.length≤i9.length+Gv.length)
 (.loop (default:Sum (Sum (Sum (Unit) ((List Claim))) ((List Claim))) (Int × (List Claim))) (fun i15=>i15.1≤Gv.length∧i15.2.length≤i9.length+i15.1) (fun i15=>Gv.length - i15.1) ((0,i9):Nat × (List Claim))
 (fun (i15:Nat × (List Claim))=>⟨[(62,iv ((i15.1:Nat):Int))],[(100548,cp 49 9 Claim.cells i15.2),(12,.box [ow 100548 i15.2])]⟩) fun i15 =>
 .lt 60 0 i15.1 Gv.length
 (.r 14 (.p (bM ((i15.1:Nat):Int) Gv.length)) fun _ =>
 .r 15 (.p (bM (Gv.getD i15.1 default) x1.1.view.now.af.length)) fun _ =>
 .r 16 ((qQ x1.1 W9 (Gv.getD i15.1 default) x6 x2).c) fun UG =>
 .br ((UG.1 == 0)||(((x1.1.view.now.af.getD ((Gv.getD i15.1 default).toNat) default).ja) == W9.qj))
 (.nx 20 62 i15.1 (i15.1+1,i15.2))
 (.r 18 ((yw r ai f (Gv.getD i15.1 default) day).c) fun x17 =>
 .r 19 (.aj (.o [.cU (dG Claim.E [({ qw:=(x1.1.view.now.af.getD ((Gv.getD i15.1 default).toNat) default).ja,jy:=W9.qj,part:=x1.1.view.lead.getD i4.1 default,sign:=Gv.getD i15.1 default,ka:=W9.sign,FV:=UG.2,sum:=x17.rest,bj:=f.aM.bj,state:=UG.1 }:Claim)])]) (.aj (.o [.cU (kx Claim.E i15.2 [({ qw:=(x1.1.view.now.af.getD ((Gv.getD i15.1 default).toNat) default).ja,jy:=W9.qj,part:=x1.1.view.lead.getD i4.1 default,sign:=Gv.getD i15.1 default,ka:=W9.sign,FV:=UG.2,sum:=x17.rest,bj:=f.aM.bj,state:=UG.1 }:Claim)])]) (.aj (.t (Claim.E.k6 [({ qw:=(x1.1.view.now.af.getD ((Gv.getD i15.1 default).toNat) default).ja,jy:=W9.qj,part:=x1.1.view.lead.getD i4.1 default,sign:=Gv.getD i15.1 default,ka:=W9.sign,FV:=UG.2,sum:=x17.rest,bj:=f.aM.bj,state:=UG.1 }:Claim)])) (.p (uG i15.2.length [({ qw:=(x1.1.view.now.af.getD ((Gv.getD i15.1 default).toNat) default).ja,jy:=W9.qj,part:=x1.1.view.lead.getD i4.1 default,sign:=Gv.getD i15.1 default,ka:=W9.sign,FV:=UG.2,sum:=x17.rest,bj:=f.aM.bj,state:=UG.1 }:Claim)].length 72))))) fun _ =>
 .r 20 .z fun _ =>
 .wi 62 (aK (((i15.1:Nat):Int)+1)) ((i15.1+1:Nat):Int) <|
 .fin (.inr (i15.1+1,i15.2++[({ qw:=(x1.1.view.now.af.getD ((Gv.getD i15.1 default).toNat) default).ja,jy:=W9.qj,part:=x1.1.view.lead.getD i4.1 default,sign:=Gv.getD i15.1 default,ka:=W9.sign,FV:=UG.2,sum:=x17.rest,bj:=f.aM.bj,state:=UG.1 }:Claim)]))))
 (.fin (.inl (.inr (((i15.1:Nat):Int),i15.2)))))
 (fun (N9:Int × (List Claim))=>⟨[(62,iv N9.1)],[(100547,cp 49 9 Claim.cells N9.2),(12,.box [ow 100547 N9.2])]⟩) fun N9 =>
 .fin (.inr N9.2))
 (fun (b12:(List Claim))=>⟨[],[(100545,cp 49 9 Claim.cells b12),(12,.box [ow 100545 b12])]⟩) fun b12 =>
 .fin (.inr b12)) fun r=>match r with
 | .inl _=>(.dead default)
 | .inr j18=>(.fin (.inr j18)))
 (fun (b8:(List Claim))=>⟨[],[(100526,cp 49 9 Claim.cells b8),(12,.box [ow 100526 b8])]⟩) fun b8 =>
 .fin (.inr b8))
 (fun (b5:(List Claim))=>⟨[],[(100503,cp 49 9 Claim.cells b5),(12,.box [ow 100503 b5])]⟩) fun b5 =>
 .nx 21 42 i4.1 (i4.1+1,b5))
 (.fin (.inl (.inr i4.2))))
 (fun (b3:(List Claim))=>⟨[],[(100274,cp 49 9 Claim.cells b3),(12,.box [ow 100274 b3])]⟩) fun b3 =>
 .fin b3)
def AB r ai f day:=(oO r ai f day).val
theorem Oa (r:ah) (ai:Int) (f:aw) (day:Int) (hF:dK r f) (bn:f.Small) (bV:r.cx) (aZ:r.Small) (Mx:r.l6) (E2:r.gV):(oO r ai f day).bq (fun _=>True):=by
  refine Sk.aO _ ?_
  unfold oO
  simp only [Sk.gx,Sk.aD,reduceCtorEq,ON,kk,kp,Sk.cK,yw,vU,lq,qQ,zf,jM,gp,ef,Sum.forall,ux,forall_eq,maxLen]
  refine ⟨⟨bn,bV,aZ⟩,?_⟩
  generalize bB r ai f day=x
  intro hx hc
  have he:=(hx (by simpa using hc)).1
  have ho:=xW f day
  dsimp only at ho
  have pF:x.1.view.all=f:=by rw [he]; exact ho.1
  have Cz:x.1.view.now=au f day:=by rw [he]; exact ho.2.1
  have JS:x.1.view.day=day:=by rw [he]; exact ho.2.2.1
  have hxr:x.1.r=r:=by rw [he]
  have ae0:=hF.2.1.1
  have agM:x.1.view.lead.length≠0∧x.1.view.lead.length≤41:=by rw [he]; exact ⟨ho.2.2.2.1,by have:=ho.2.2.2.2; show (bN f day).lead.length≤41; omega⟩
  have hsg:=qx f day
  have agN:x.1.view.pI:=by unfold View.pI; rw [Cz]; exact hF.ac1 day
  have zM:∀ part,(aQ x.1.view part).length≤40∧∀ y,y∈aQ x.1.view part→0≤y∧y < ((au f day).af.length:Int):=fun part=>by
    have h:=uw x.1.view part
    rw [pF,JS] at h
    exact ⟨Nat.le_trans h.1 ae0,fun y hy=>⟨(h.2 y hy).1,hF.abl (h.2 y hy).1 (h.2 y hy).2.1 (h.2 y hy).2.2⟩⟩
  have hlg:∀ part i,i < (aQ x.1.view part).length→0≤(aQ x.1.view part).getD i default∧(aQ x.1.view part).getD i default < ((au f day).af.length:Int):=fun part i hi=>(zM part).2 _ (fX hi _)
  have QB:∀ part,Me x.1 (aQ x.1.view part):=fun part=>by
    refine ⟨by have:=(zM part).1; omega,fun i hi=>by rw [Cz]; exact hlg part i hi,fun i hi=>?_⟩
    have hs:x.1.view.now.Small:=by rw [Cz]; exact qy bn day
    have hb:x.1.r.cx:=by rw [hxr]; exact bV
    have hr:x.1.r.Small:=by rw [hxr]; exact aZ
    exact ⟨hs,hb,hr⟩
  have hol:∀ part k y,(bC x.1 (aQ x.1.view part))[k]? = some y→k≤40:=fun part k y h=>by
    have h1:=(List.getElem?_eq_some_iff.1 h).1
    have h2:=Au x.1 (aQ x.1.view part)
    have h3:=(zM part).1
    omega
  have hli:∀ part b l,(cH x.1.view part b l).length≤40∧∀ i,i < (cH x.1.view part b l).length→0≤(cH x.1.view part b l).getD i default∧(cH x.1.view part b l).getD i default < ((au f day).af.length:Int):=fun part b l=>by
    have h:=tC x.1.view part b l
    rw [Cz] at h
    exact ⟨Nat.le_trans h.1 (by omega),fun i hi=>h.2 _ (fX hi _)⟩
  refine ⟨⟨bn,bV,aZ⟩,fun hE=>⟨⟨Nat.zero_le _,by simp⟩,fun i hi hm=>⟨fun gJ=>⟨⟨by simp only [LN] at gJ; omega,fun _=>⟨by rw [pF]; exact bn,fun _ _=>⟨⟨QB _,by omega,fun k s y hs hy=>?_,?_⟩,?_⟩⟩⟩,?_⟩,?_⟩⟩⟩
  · have hk:=hol _ _ _ hy
    obtain ⟨hn,hg⟩:=hli (x.1.view.lead.getD i.1 default) y.sign (aQ x.1.view (x.1.view.lead.getD i.1 default))
    have DG:∀ (l:List Claim) (c:Claim),(l++[c]).length=l.length+1:=fun l c=>by simp
    have ajy:i.2.length≤410000:=by simp only [LN] at gJ; omega
    refine ⟨⟨fun _=>⟨⟨⟨Nat.zero_le _,Nat.le_refl _⟩,fun j hj=>⟨fun hc _ _=>⟨fun _ _=>?_,fun _ _ _ _=>?_⟩,fun hc=>?_⟩⟩,fun b hb=>?_⟩,fun b _ hb=>?_⟩,⟨⟨agM.1,by rw [Cz]; omega⟩,fun _=>?_⟩,?_⟩
    · simp only [LN] at hc; exact ⟨⟨by omega,by omega⟩,by omega⟩
    · simp only [LN] at hc; rw [DG]; exact ⟨⟨by omega,by omega⟩,by omega⟩
    · simp only [LN] at hc; omega
    · omega
    · omega
    · have e1:x.1.view.now=au x.1.view.all x.1.view.day:=by rw [Cz,pF,JS]
      have e2:dK x.1.r x.1.view.all:=by rw [hxr,pF]; exact hF
      have e3:x.1.view.all.Small:=by rw [pF]; exact bn
      have e4:x.1.r.cx:=by rw [hxr]; exact bV
      have e5:x.1.r.Small:=by rw [hxr]; exact aZ
      have e6:(fH r ai f day).length=x.1.view.now.af.length:=by rw [Cz]; exact hE
      have h1:∀ c:Claim,[c].length=1:=fun _=>rfl
      refine ⟨⟨⟨Nat.zero_le _,Nat.le_refl _⟩,fun j hj hm2=>⟨fun hc=>?_,fun hc=>?_⟩⟩,fun b hb=>by omega⟩
      · simp only [LN] at hc
        have hgj:=hg j.1 (by omega)
        rw [← Cz] at hgj
        refine ⟨⟨by omega,by omega⟩,fun _=>⟨hgj,fun _=>⟨⟨e6,hgj,e1,e2,agN,e3,e4,e5⟩,fun _ _=>⟨(aq (by omega) (by omega)).trans (by omega),⟨by omega,by omega⟩,by omega⟩,fun _=>⟨⟨hF,bn,bV,aZ,Mx,E2⟩,fun _=>⟨?_,fun _ _=>⟨(aq (by omega) (by omega)).trans (by omega),⟨by omega,?_⟩,by omega⟩⟩⟩⟩⟩⟩
        · rw [h1]; omega
        · rw [DG]; omega
      · simp only [LN] at hc; omega
    · exact fun b _ hb=>by omega
  · intro b hb
    have h2:=Au x.1 (aQ x.1.view (x.1.view.lead.getD i.1 default))
    have h3:=(zM (x.1.view.lead.getD i.1 default)).1
    omega
  · exact fun b _ hb=>hb
  · intro b _ hb _
    simp only [LN] at gJ
    exact ⟨(aq (by omega) (by omega)).trans (by omega),⟨by omega,by omega⟩,by omega⟩
  · intro hc
    simp only [LN] at hc
    omega

def uS r ai f day:=kk tok mixed Tryz.func9 [av r.cells,iv ai,av f.cells,iv day] (fun x=>lv Claim.cells x) false (oO r ai f day) (AB r ai f day) (u6 (Oa r ai f day))
def qU (f:aw) (day:Int):Sk ((List Int)) :=
 .r 1 ((pJ f day).c) fun x1 =>
 .fin x1.lead
def iD f day:=(qU f day).val
theorem My (f:aw) (day:Int) (bn:f.Small):(qU f day).bq (fun _=>True):=by
  simp only [aw.Small,ah.Small] at bn
  unfold qU
  try simp only [pJ,aw.Small,ah.Small]
  exact mH

def Ek f day:=kk tok mixed Tryz.func13 [av f.cells,iv day] (fun x=>lv bJ x) false (qU f day) (iD f day) (My f day)
def tE (a:List Int) (b:List Int):Sk (Bool) :=
 .br (((a.length:Nat):Int) != ((b.length:Nat):Int))
 (.fin false)
 (.bt
 (.loop (default:Sum (Bool) (Unit)) (fun i2=>i2≤a.length) (fun i2=>a.length - i2) (0:Nat)
 (fun (i2:Nat)=>⟨[(5,iv ((i2:Nat):Int))],[]⟩) fun i2 =>
 .lt 0 0 i2 a.length
 (.r 6 (.aj (.p (bM ((i2:Nat):Int) a.length)) (.p (bM ((i2:Nat):Int) b.length))) fun _ =>
 .br ((a.getD i2 default) != (b.getD i2 default))
 (.fin (.inl (.inl false)))
 (.nx 5 5 i2 (i2+1)))
 (.fin (.inl (.inr ()))))
 (fun (_:Unit)=>⟨[],[]⟩) fun _ =>
 .fin true)
def abG a b:=(tE a b).val
theorem RA (a:List Int) (b:List Int):(tE a b).dq (fun (x:Bool)=>a=b→x=true):=by
  unfold tE
  exact Ly

theorem UH (a:List Int) (b:List Int):(tE a b).bq (fun _=>True):=by
  unfold tE
  exact mH

def E3 a b:=kp tok mixed Tryz.func12 [lv bJ a,lv bJ b] (fun x=>bv x) true (abG a b) (u0 (UH a b)) (RA a b)
def sO (f:aw) (part:Int) (ka:Int) (day:Int):Sk ((List Int)) :=
 .r 1 ((pJ f day).c) fun x1 =>
 .r 2 ((aP x1.lead part).c) fun x2 =>
 .br (!x2)
 (.fin [])
 (.r 4 (.dep ((gp x1 part).c) fun x3=>(jM x1 part ka x3).c) fun p5 =>
 .fin p5.2)
def Xa f part ka day:=(sO f part ka day).val
theorem Oc (f:aw) (part:Int) (ka:Int) (day:Int) (bn:f.Small):(sO f part ka day).bq (fun _=>True):=by
  refine Sk.aO _ ?_
  unfold sO
  simp only [Sk.gx,Sk.aD,reduceCtorEq,ON,kk,kp,pJ,jM,gp,aP,maxLen]
  refine ⟨bn,fun x _ hx y _ _ _=>⟨by rw [hx.1]; exact bn,fun z _ _=>⟨hx.2.2.2.1,?_⟩⟩⟩
  rw [hx.2.1]
  exact (qy bn day).1

def GB f part ka day:=kk tok mixed Tryz.func14 [av f.cells,iv part,iv ka,iv day] (fun x=>lv bJ x) false (sO f part ka day) (Xa f part ka day) (Oc f part ka day)
theorem UI {β Y γ:Type} (g:Y→List β) {f:List β→Y→γ ⊕ List β}:∀ (l:List Y) (s:List β),(∀ s y,y∈l→f s y=.inr (s++g y))→ou f l s=.inr (s++l.flatMap g)
  | [],s,_=>by simp [ou]
  | y :: r,s,h=>by
    simp only [ou,h s y (by simp)]
    rw [UI g r _ (fun s z hz=>h s z (by simp [hz]))]
    simp
theorem UJ {α β ι δ:Type} [Inhabited α] (l:List α) (g:α→List β) (pack:List β→Nat→ι) {f:ι→δ ⊕ ι} {d:δ} (e:List β→δ)
    (hs:∀ s i,i < l.length→f (pack s i)=.inr (pack (s++g (l.getD i default)) (i+1))) (he:∀ s,f (pack s l.length)=.inl (e s)) {n:Nat} (hn:l.length < n) (s:List β):iter f d n (pack s 0)=e (s++l.flatMap g):=by
  rw [jW (d:=d) l pack (fun x s=>.inr (s++g x)) e hs he hn s,jm (fun x s=>s++g x) e]
  congr 1
  clear hs he hn
  induction l generalizing s with
  | nil=>simp
  | cons x r ih=>rw [List.foldl_cons,ih]; simp
/-- a mf of an owner by a signature,if there is one -/
def Dv (r:ah) (ai:Int) (f:aw) (day:Int) (c:gG) (eff:List dZ) (aI:List Int) (part:Int) (o:bI) (sign:Int):List Claim :=
  bif (eZ c o sign aI eff).1 == 0||(c.view.now.af.getD sign.toNat default).ja == o.qj then [] else
  [{ qw:=(c.view.now.af.getD sign.toNat default).ja,jy:=o.qj,part:=part,sign:=sign,ka:=o.sign,FV:=(eZ c o sign aI eff).2,sum:=(xz r ai f sign day).rest,bj:=f.aM.bj,state:=(eZ c o sign aI eff).1 }]
def UK (r:ah) (ai:Int) (f:aw) (day:Int) (c:gG) (eff:List dZ):List Claim :=
  c.view.lead.flatMap fun part=>(bC c (aQ c.view part)).flatMap fun o=>(cH c.view part o.sign (aQ c.view part)).flatMap fun sign=>Dv r ai f day c eff (aQ c.view part) part o sign
theorem ZM (r:ah) (ai:Int) (f:aw) (day:Int):AB r ai f day=bif !(bB r ai f day).2 then [] else UK r ai f day (bB r ai f day).1 (fH r ai f day):=by
  unfold AB oO
  dsimp +instances only [Sk.cz,Sk.cY,Sk.ct,Sk.bK,Sk.cE,Sk.cV,Sk.bg,Sk.WM,fD.wG,kk,kp,zf,vU,gp,jM,qQ,yw,ef,bH.xU]
  cases (bB r ai f day).2 with
  | false=>rfl
  | true =>
    simp only [Bool.not_true,cond_false]
    refine Eq.trans (congrArg (fun q=>bO q fun b=>b) (UJ (bB r ai f day).1.view.lead (fun part=>(bC (bB r ai f day).1 (aQ (bB r ai f day).1.view part)).flatMap fun o=>(cH (bB r ai f day).1.view part o.sign (aQ (bB r ai f day).1.view part)).flatMap fun sign=>Dv r ai f day (bB r ai f day).1 (fH r ai f day) (aQ (bB r ai f day).1.view part) part o sign) (fun s i=>(i,s)) (fun s=>Sum.inr s) (fun s i hi=>?_) (fun s=>?_) (by simp) [])) ?_
    · dsimp only
      rw [decide_eq_true (by omega),cond_true]
      rw [UI (fun o=>(cH (bB r ai f day).1.view ((bB r ai f day).1.view.lead.getD i default) o.sign (aQ (bB r ai f day).1.view ((bB r ai f day).1.view.lead.getD i default))).flatMap fun sign=>Dv r ai f day (bB r ai f day).1 (fH r ai f day) (aQ (bB r ai f day).1.view ((bB r ai f day).1.view.lead.getD i default)) ((bB r ai f day).1.view.lead.getD i default) o sign) _ s (fun s y _=>?_)]
      · rfl
      · refine Eq.trans (congrArg (fun q=>bO (bO q _) _) (UJ (cH (bB r ai f day).1.view ((bB r ai f day).1.view.lead.getD i default) y.sign (aQ (bB r ai f day).1.view ((bB r ai f day).1.view.lead.getD i default))) (fun sign=>Dv r ai f day (bB r ai f day).1 (fH r ai f day) (aQ (bB r ai f day).1.view ((bB r ai f day).1.view.lead.getD i default)) ((bB r ai f day).1.view.lead.getD i default) y sign) (fun s i=>(i,s)) (fun s=>Sum.inr (((cH (bB r ai f day).1.view ((bB r ai f day).1.view.lead.getD i default) y.sign (aQ (bB r ai f day).1.view ((bB r ai f day).1.view.lead.getD i default))).length:Int),s)) (fun s k hk=>?_) (fun s=>?_) (by simp) s)) ?_
        · dsimp only
          rw [decide_eq_true (by omega),cond_true]
          unfold Dv
          cases (eZ (bB r ai f day).1 y ((cH (bB r ai f day).1.view ((bB r ai f day).1.view.lead.getD i default) y.sign (aQ (bB r ai f day).1.view ((bB r ai f day).1.view.lead.getD i default))).getD k default) (aQ (bB r ai f day).1.view ((bB r ai f day).1.view.lead.getD i default)) (fH r ai f day)).1 == 0||((bB r ai f day).1.view.now.af.getD ((cH (bB r ai f day).1.view ((bB r ai f day).1.view.lead.getD i default) y.sign (aQ (bB r ai f day).1.view ((bB r ai f day).1.view.lead.getD i default))).getD k default).toNat default).ja == y.qj with
          | true=>simp only [cond_true,List.append_nil]
          | false=>simp only [cond_false]
        · dsimp only
          rw [decide_eq_false (by omega),cond_false]
        · rfl
    · dsimp only
      rw [decide_eq_false (by omega),cond_false]
    · rw [List.nil_append]
      rfl
/-- Pv file of Pv example is right -/
theorem UL (g:Int):∃ (B:jX) (fs:List Fact),(B.sum=1000∧B.rD=0∧B.day=100∧B.parts=2∧B.bj=0)∧fs.length≤2 ∧
    Dm g=⟨B,[⟨0,0,0,-1,-1,0,100,0,0⟩,⟨1,0,1,-1,-1,1000,101,0,0⟩,⟨2,1,2,-1,3,0,102,0,0⟩],[],[],fs⟩:=by
  unfold Dm qv
  cases (g == 0)||(g == 1) with
  | true=>exact ⟨⟨0,1,2,1000,0,⟨2,30,0⟩,100,0,0,-1,0,1,2⟩,[⟨0,2,g⟩,⟨2,2,1⟩],⟨rfl,rfl,rfl,rfl,rfl⟩,Nat.le_refl _,rfl⟩
  | false=>exact ⟨⟨0,1,2,1000,0,⟨2,30,0⟩,100,0,0,-1,0,1,2⟩,[⟨2,2,1⟩],⟨rfl,rfl,rfl,rfl,rfl⟩,by decide,rfl⟩
theorem E4:dL.aB.length=1∧dL.bu.length=4∧dL.aY.length=1∧dL.l6∧dL.gV∧dL.cx∧dL.Small:=by
  refine ⟨by kernel_rfl,by kernel_rfl,by kernel_rfl,?_,?_,?_,?_⟩
  · intro i hi
    match i with
    | 0 | 1 | 2 | 3=>exact ⟨by decide,by decide⟩
    | i+4=>exact absurd hi (by rw [show dL.bu.length=4 by kernel_rfl]; omega)
  · intro i hi
    exact absurd hi (by rw [show dL.cg.length=0 by kernel_rfl]; omega)
  · intro i j hi hj
    match i with
    | 0=>exact absurd hj (by rw [show (dL.ak.getD 0 default).aE.length=0 by kernel_rfl]; omega)
    | i+1=>exact absurd hi (by rw [show dL.ak.length=1 by kernel_rfl]; omega)
  · unfold ah.Small
    rw [show dL.aY.length=1 by kernel_rfl,show dL.aB.length=1 by kernel_rfl,show dL.cO.length=1 by kernel_rfl,show dL.bu.length=4 by kernel_rfl,show dL.ak.length=1 by kernel_rfl,show dL.aR.length=0 by kernel_rfl,show dL.cg.length=0 by kernel_rfl,show dL.ca.length=0 by kernel_rfl]
    refine ⟨by omega,by omega,by omega,by omega,by omega,by omega,by omega,by omega,fun i hi=>?_⟩
    match i with
    | 0=>rw [show (dL.ak.getD 0 default).aE.length=0 by kernel_rfl,show (dL.ak.getD 0 default).rules.length=4 by kernel_rfl]; omega
    | i+1=>omega
theorem I4 (g:Int):dK dL (Dm g):=by
  obtain ⟨B,fs,hB,hf,e⟩:=UL g
  obtain ⟨l1,l2,l3,-⟩:=E4
  rw [e]
  refine ⟨⟨by dsimp only; omega,by dsimp only; omega,by dsimp only; omega,by dsimp only; omega,by dsimp only; omega⟩,⟨by simp,by simp,by simp,by simp,by dsimp only; omega⟩,fun q hq=>?_,fun q hq=>absurd hq (by simp),fun q hq=>absurd hq (by simp)⟩
  have hq:q < 3:=hq
  unfold yR Uc
  dsimp only
  match q with
  | 0 | 1 | 2=>simp; omega
  | q+3=>omega
theorem xA {α β:Type} {g:α→List β} {m:Nat}:∀ (l:List α),(∀ x,x∈l→(g x).length≤m)→(l.flatMap g).length≤l.length * m
  | [],_=>by simp
  | x :: r,h=>by
    have h1:=xA r (fun y hy=>h y (by simp [hy]))
    have h2:=h x (by simp)
    rw [List.flatMap_cons,List.length_append,List.length_cons,Nat.succ_mul]
    omega
theorem Xb {r:ah} {ai:Int} {f:aw} {day:Int} (hF:dK r f):(AB r ai f day).length≤67240:=by
  rw [ZM]
  cases ht:(bB r ai f day).2 with
  | false=>simp
  | true =>
    rw [Bool.not_true,cond_false]
    have he:=(Ro r ai f day ht).1
    have hv:(bB r ai f day).1.view=bN f day:=by rw [he]
    have ho:=xW f day
    have h40:=hF.2.1.1
    have hk:∀ part,(aQ (bN f day) part).length≤40:=fun part=>by
      have h:=(uw (bN f day) part).1
      rw [ho.1] at h
      omega
    unfold UK
    rw [hv]
    refine Nat.le_trans (xA (m:=1640) _ fun part _=>Nat.le_trans (xA (m:=40) _ fun o _=>Nat.le_trans (xA (m:=1) _ fun s _=>?_) ?_) ?_) ?_
    · unfold Dv
      cases (eZ (bB r ai f day).1 o s (aQ (bN f day) part) (fH r ai f day)).1 == 0||((bB r ai f day).1.view.now.af.getD s.toNat default).ja == o.qj <;> simp
    · have h:=(tC (bN f day) part o.sign (aQ (bN f day) part)).1
      have h2:=qx f day
      rw [ho.2.1] at h
      omega
    · have h:=Au (bB r ai f day).1 (aQ (bN f day) part)
      have h2:=hk part
      omega
    · have h:=ho.2.2.2.2
      omega
def qV (fq:Int) (day:Int):Sk ((List Claim)) :=
 .r 1 (.dep zZ.c fun x1=>.dep ((xc fq).c) fun x2=>(uS x1 0 x2 day).c) fun p6 =>
 .r 2 (.o [.cU (dG Claim.E ([]:List Claim))]) fun _ =>
 .bind true (fun b4=>b4.length≤([]:List Claim).length+p6.2.2.length)
 (.loop (default:Sum ((List Claim)) ((List Claim))) (fun i5=>i5.2≤p6.2.2.length∧i5.1.length≤([]:List Claim).length+i5.2) (fun i5=>p6.2.2.length - i5.2) ((([]:List Claim),0):(List Claim) × Nat)
 (fun (i5:(List Claim) × Nat)=>⟨[(6,ow 100002 i5.1),(7,iv ((i5.2:Nat):Int))],[(100002,cp 49 9 Claim.cells i5.1)]⟩) fun i5=>let az:=(bM ((i5.2:Nat):Int) p6.2.2.length);
 .lt 5 0 i5.2 p6.2.2.length
 (.r 6 (.p az) fun _ =>
 .br (((p6.2.2.getD i5.2 default).sign) == 1)
 (.r 7 (.aj (.p az) (.aj (.o [.cU (dG Claim.E [p6.2.2.getD i5.2 default])]) (.aj (.o [.cU (kx Claim.E i5.1 [p6.2.2.getD i5.2 default])]) (.aj (.t (Claim.E.k6 [p6.2.2.getD i5.2 default])) (.p (uG i5.1.length [p6.2.2.getD i5.2 default].length 72)))))) fun _ =>
 .nx 5 7 i5.2 (i5.1++[p6.2.2.getD i5.2 default],i5.2+1))
 (.nx 5 7 i5.2 (i5.1,i5.2+1)))
 (.fin (.inl (.inr i5.1))))
 (fun (b4:(List Claim))=>⟨[(6,ow 100001 b4)],[(100001,cp 49 9 Claim.cells b4)]⟩) fun b4 =>
 .fin b4
def UM fq day:=(qV fq day).val
theorem Mz (fq:Int) (day:Int):(qV fq day).bq (fun _=>True):=by
  refine Sk.aO _ ?_
  unfold qV
  simp only [Sk.gx,Sk.aD,reduceCtorEq,ON,kk,kp,zZ,xc,uS,maxLen]
  have hs:=I4 fq
  obtain ⟨-,-,-,hl1,hl2,hl3,hl4⟩:=E4
  refine ⟨fun x hx y hy=>?_,fun x hx _=>?_⟩
  · subst hx hy
    exact ⟨hs,hs.small,hl3,hl4,hl1,hl2⟩
  · have hn:x.2.2.length≤67240:=by rw [hx]; exact Xb hs
    clear hx
    all_goals exact okT

def sP fq day:=kk tok mixed Tryz.func16 [iv fq,iv day] (fun x=>lv Claim.cells x) false (qV fq day) (UM fq day) (u0 (Mz fq day))
def mE (a:List Claim) (b:List Claim):Sk (Bool) :=
 .br (((a.length:Nat):Int) != ((b.length:Nat):Int))
 (.fin false)
 (.bt
 (.loop (default:Sum (Bool) (Unit)) (fun i2=>i2≤a.length) (fun i2=>a.length - i2) (0:Nat)
 (fun (i2:Nat)=>⟨[(5,iv ((i2:Nat):Int))],[]⟩) fun i2=>let aV:=(b.getD i2 default); let az:=(a.getD i2 default);
 .lt 0 0 i2 a.length
 (.r 6 (.aj (.p (bM ((i2:Nat):Int) a.length)) (.p (bM ((i2:Nat):Int) b.length))) fun _ =>
 .br (!(((az.qw) == (aV.qw))&&(((az.jy) == (aV.jy))&&(((az.part) == (aV.part))&&(((az.sign) == (aV.sign))&&(((az.ka) == (aV.ka))&&(((az.FV) == (aV.FV))&&(((az.sum) == (aV.sum))&&(((az.bj) == (aV.bj))&&(((az.state) == (aV.state))&&true))))))))))
 (.fin (.inl (.inl false)))
 (.nx 5 5 i2 (i2+1)))
 (.fin (.inl (.inr ()))))
 (fun (_:Unit)=>⟨[],[]⟩) fun _ =>
 .fin true)
def MA a b:=(mE a b).val
theorem GC (a:List Claim) (b:List Claim):(mE a b).bq (fun _=>True):=by
  unfold mE
  exact mH

def nR a b:=kk tok mixed Tryz.func15 [lv Claim.cells a,lv Claim.cells b] (fun x=>bv x) true (mE a b) (MA a b) (u0 (GC a b))
def xB:Sk (Bool):=let rz:=((xc 1).c); let kV:=({ qw:=1,jy:=3,part:=1,sign:=1,ka:=2,FV:=0,sum:=1000,bj:=0,state:=2 }:Claim); let eG:=({ qw:=1,jy:=3,part:=1,sign:=1,ka:=2,FV:=0,sum:=1000,bj:=0,state:=1 }:Claim); let cF:=({ qw:=1,jy:=2,part:=1,sign:=1,ka:=(-1),FV:=0,sum:=1000,bj:=0,state:=2 }:Claim); let aV:=({ qw:=1,jy:=2,part:=1,sign:=1,ka:=(-1),FV:=0,sum:=1000,bj:=0,state:=1 }:Claim);
 .r 7 (.dep zZ.c fun x1=>.dep rz fun x2=>.dep ((uS x1 0 x2 120).c) fun x3=>let az:=(((x3.length:Nat):Int) != 0); .dep (.wh az false rz) fun x4=>.dep (.wh az false ((Ek x4 130).c)) fun x5=>.aj (.wh az false (.o [.cU (dG cN [1])])) (.dep (.wh az false ((E3 x5 [1]).c)) fun x6=>.dep (.wh (az||(!x6)) false rz) fun x7=>.dep (.wh (az||(!x6)) false ((GB x7 1 2 130).c)) fun x8=>.aj (.wh (az||(!x6)) false (.o [.cU (dG cN [0,1,2])])) (.wh (az||(!x6)) false ((E3 x8 [0,1,2]).c)))) fun p17 =>
 .br (((((p17.2.2.1.length:Nat):Int) != 0)||(!p17.2.2.2.2.2.1))||(!p17.2.2.2.2.2.2.2.2))
 (.fin false)
 (.r 9 (.dep ((sP 1 130).c) fun Ju=>.aj (.o [.cU (dG Claim.E [eG])]) (.dep ((nR Ju [eG]).c) fun VX=>.dep (.wh VX true ((sP 0 130).c)) fun ZI=>.aj (.wh VX true (.o [.cU (dG Claim.E [aV])])) (.dep (.wh VX true ((nR ZI [aV]).c)) fun Gv=>.dep (.wh (VX&&Gv) true ((sP 2 130).c)) fun x14=>.aj (.wh (VX&&Gv) true (.o [.cU (dG Claim.E [cF,kV])])) (.wh (VX&&Gv) true ((nR x14 [cF,kV]).c))))) fun p16 =>
 .fin ((p16.2.1&&p16.2.2.2.1)&&p16.2.2.2.2.2))
def zw:Bool:=(xB).val
theorem El:(fun (x:Bool)=>x=true) (zw):=(show zw=true by kernel_rfl)
theorem UN:(xB).bq (fun _=>True):=by
  refine Sk.aO _ ?_
  unfold xB
  simp only [Sk.gx,Sk.aD,reduceCtorEq,ON,kk,kp,sP,zZ,xc,E3,nR,uS,Ek,GB,maxLen]
  have hs:=I4
  obtain ⟨-,-,-,hl1,hl2,hl3,hl4⟩:=E4
  intro x hx y hy
  subst hx hy
  refine ⟨⟨hs 1,(hs 1).small,hl3,hl4,hl1,hl2⟩,fun x _ y hy=>?_⟩
  subst hy
  exact ⟨fun _=>(hs 1).small,by intros; subst_vars; exact (hs 1).small⟩

def MB:fD (Bool):=kk tok mixed Tryz.func4 [] (fun x=>bv x) true (xB) (zw) (fun (_:True)=>UN) (fun (x:Bool)=>x=true) (El)
def sQ (c_:Int):Sk (Bool) :=
 .fin (((decide ((97:Int)≤c_))&&(decide (c_≤122)))||((decide ((65:Int)≤c_))&&(decide (c_≤90))))
def AD c_:=(sQ c_).val
theorem Od (c_:Int):AD c_=(((decide ((97:Int)≤c_))&&(decide (c_≤122)))||((decide ((65:Int)≤c_))&&(decide (c_≤90)))):=rfl
theorem Oe (c_:Int):(sQ c_).bq (fun _=>True):=by
  unfold sQ
  exact mP

def GD c_:=kk tok mixed Tryz.func188 [.d (.v (.int .u8 c_))] (fun x=>bv x) true (sQ c_) (AD c_) (u0 (Oe c_))
def xC (s:ByteArray):Sk (Bool):=let cF:=((s.size:Nat):Int);
 .br ((decide (cF < 1))||(decide (cF > 20)))
 (.fin false)
 (.bt
 (.loop (default:Sum (Bool) (Unit)) (fun i2=>i2≤s.size) (fun i2=>s.size - i2) (0:Nat)
 (fun (i2:Nat)=>⟨[(3,iv ((i2:Nat):Int))],[]⟩) fun i2=>let aV:=((i2:Nat):Int); let az:=((s.data.toList.getD i2 0).toNat:Int); let eG:=(decide ((48:Int)≤az));
 .br (decide (aV < cF))
 (.r 6 (.aj (.p (0≤aV∧aV < cF)) (.aj (.wh (az == 95) false (.p (0≤aV∧aV < cF))) (.wh (az == 95) false (.wh eG true (.p (0≤aV∧aV < cF)))))) fun _ =>
 .r 7 (.aj (.p (0≤aV∧aV < cF)) ((GD az).c)) fun x3 =>
 .br ((!x3)&&((aV == 0)||(!((az == 95)||(eG&&(decide (az≤57)))))))
 (.fin (.inl (.inl false)))
 (.nx 5 3 i2 (i2+1)))
 (.fin (.inl (.inr ()))))
 (fun (_:Unit)=>⟨[],[]⟩) fun _ =>
 .fin true)
def wb s:=(xC s).val
theorem UO (s:ByteArray):(xC s).bq (fun _=>True):=by
  unfold xC
  try simp only [GD,Od]
  exact xV

def MC s:=kk tok mixed Tryz.func132 [sv s] (fun x=>bv x) true (xC s) (wb s) (u0 (UO s))
def sR (l:List ByteArray) (n:Int) (s:ByteArray):Sk (Bool) :=
 .bt
 (.loop (default:Sum (Bool) (Unit)) (fun i2=>i2≤l.length) (fun i2=>l.length - i2) (0:Nat)
 (fun (i2:Nat)=>⟨[(7,iv (i2:Int))],[]⟩) fun i2=>let az:=(i2:Int);
 .Eb 0 0 l.length <|
 .br ((decide (az < n))&&(decide (az < ((l.length:Nat):Int))))
 (.r 4 (.p (bM az l.length)) fun _ =>
 .br ((l.getD i2 default).toList == s.toList)
 (.fin (.inl (.inl true)))
 (.nx 3 7 i2 (i2+1)))
 (.fin (.inl (.inr ()))))
 (fun (_:Unit)=>⟨[],[]⟩) fun _ =>
 .fin false
def we l n s:=(sR l n s).val
theorem Og (l:List ByteArray) (n:Int) (s:ByteArray):(sR l n s).bq (fun _=>True):=by
 unfold sR
 exact mH
def GF l n s:=kk tok mixed Tryz.func133 [lv jV l,iv n,sv s] (fun x=>bv x) true (sR l n s) (we l n s) (u0 (Og l n s))
def uT (l:List ByteArray) (i:Int):Sk (Int) :=
 .r 1 (.aj (.p (bM i l.length)) ((MC (l.getD i.toNat default)).c)) fun x1 =>
 .br (!x1)
 (.fin 2)
 (.r 3 (.aj (.p (bM i l.length)) ((GF l i (l.getD i.toNat default)).c)) fun x2 =>
 .br x2
 (.fin 5)
 (.fin 0))
def fO l i:=(uT l i).val
theorem RB (l:List ByteArray) (i:Int) (hi:0≤i∧i < (l.length:Int)):(uT l i).bq (fun _=>True):=by
 unfold uT
 try simp only [GF,MC]
 exact mH
def iE l i:=kk tok mixed Tryz.func84 [lv jV l,iv i] (fun x=>iv x) true (uT l i) (fO l i) (RB l i)
def sS (n:Int) (low:Int) (high:Int):Sk (Bool) :=
 .fin ((decide (low≤n))&&(decide (n≤high)))
def bm n low high:=(sS n low high).val
theorem aW (n:Int) (low:Int) (high:Int):bm n low high=((decide (low≤n))&&(decide (n≤high))):=rfl
theorem Oh (n:Int) (low:Int) (high:Int):(sS n low high).bq (fun _=>True):=by
 unfold sS
 exact mP
def ar n low high:=kk tok mixed Tryz.func45 [iv n,iv low,iv high] (fun x=>bv x) true (sS n low high) (bm n low high) (u0 (Oh n low high))
def sT (l:List Int) (low:Int) (high:Int):Sk (Bool) :=
 .bt
 (.loop (default:Sum (Bool) (Unit)) (fun i2=>i2≤l.length) (fun i2=>l.length - i2) (0:Nat)
 (fun (i2:Nat)=>⟨[(7,iv (i2:Int))],[]⟩) fun i2=>let az:=(i2:Int); let aV:=(decide (az > 0));
 .lt 0 0 i2 l.length
 (.r 4 (.aj (.p (bM az l.length)) ((ar (l.getD i2 default) low high).c)) fun x3 =>
 .br (!x3)
 (.fin (.inl (.inl false)))
 (.r 6 (.aj (.wh aV true (.p (bM (aK (az - 1)) l.length))) (.wh aV true (.p (bM az l.length)))) fun _ =>
 .br (aV&&(decide ((l.getD ((aK (az - 1)).toNat) default)≥(l.getD i2 default))))
 (.fin (.inl (.inl false)))
 (.nx 3 7 i2 (i2+1))))
 (.fin (.inl (.inr ()))))
 (fun (_:Unit)=>⟨[],[]⟩) fun _ =>
 .fin true
def rZ l low high:=(sT l low high).val
theorem Oi (l:List Int) (low:Int) (high:Int):(sT l low high).bq (fun _=>True):=by
 unfold sT
 try simp only [ar,aW]
 exact xV
def qW l low high:=kk tok mixed Tryz.func134 [lv bJ l,iv low,iv high] (fun x=>bv x) true (sT l low high) (rZ l low high) (u0 (Oi l low high))
def kN (r:ah) (c_:eB):Sk (Bool) :=
 .r 1 (.dep ((ar c_.order 0 (aK (((r.ak.length:Nat):Int) - 1))).c) fun x1=>.wh (!x1) false ((ar c_.bj 0 (aK (((r.aY.length:Nat):Int) - 1))).c)) fun p12 =>
 .br ((((!p12.1)||(!p12.2))||(decide (((c_.cW.length:Nat):Int) > 60)))||(decide (((c_.shut.length:Nat):Int) > 200)))
 (.fin false)
 (.bt
 (.loop (default:Sum (Bool) (Unit)) (fun i4=>i4≤c_.cW.length) (fun i4=>c_.cW.length - i4) (0:Nat)
 (fun (i4:Nat)=>⟨[(5,iv (i4:Int))],[]⟩) fun i4=>let aV:=(c_.cW.getD i4 default); let az:=(bM (i4:Int) c_.cW.length);
 .lt 3 4 i4 c_.cW.length
 (.r 6 (.aj (.p az) (.aj (.p ((100:Int)≠0)) (.dep ((ar (aK (aV.tdiv 100)) 1 12).c) fun x5=>.aj (.wh (!x5) false (.p az)) (.aj (.wh (!x5) false (.p ((100:Int)≠0))) (.wh (!x5) false ((ar (aV.tmod 100) 1 31).c)))))) fun p7 =>
 .br ((!p7.1)||(!p7.2))
 (.fin (.inl (.inl false)))
 (.nx 5 5 i4 (i4+1)))
 (.fin (.inl (.inr ()))))
 (fun (_:Unit)=>⟨[],[]⟩) fun _ =>
 .r 8 (.dep ((qW c_.rest 0 6).c) fun x8=>.dep (.wh x8 true ((qW c_.cW 0 2000).c)) fun x9=>.wh (x8&&x9) true ((qW c_.shut 0 100000).c)) fun SP =>
 .fin ((SP.1&&SP.2.1)&&SP.2.2))
def oP r c_:=(kN r c_).val
theorem GG (r:ah) (c_:eB):(kN r c_).dq (fun (x:Bool)=>x=true→0≤c_.order):=by
 unfold kN
 try simp only [qW,ar,aW]
 exact Yp
theorem H8 (r:ah) (c_:eB):(kN r c_).bq (fun _=>True):=by
 unfold kN
 try simp only [qW,ar,aW]
 exact xV
def ug r c_:=kp tok mixed Tryz.func85 [av r.cells,av c_.cells] (fun x=>bv x) true (oP r c_) (u0 (H8 r c_)) (GG r c_)
def oQ (r:ah):Sk (Int) :=
 .br (decide (((r.aY.length:Nat):Int) > 8))
 (.fin 6)
 (.bt
 (.loop (default:Sum (Int) (Unit)) (fun i2=>i2≤r.aY.length) (fun i2=>r.aY.length - i2) (0:Nat)
 (fun (i2:Nat)=>⟨[(3,iv (i2:Int))],[]⟩) fun i2 =>
 .lt 1 0 i2 r.aY.length
 (.r 6 ((iE r.aY (i2:Int)).c) fun x3 =>
 .br (x3 != 0)
 (.fin (.inl (.inl x3)))
 (.nx 5 3 i2 (i2+1)))
 (.fin (.inl (.inr ()))))
 (fun (_:Unit)=>⟨[],[]⟩) fun _ =>
 .br (decide (((r.aB.length:Nat):Int) > 40))
 (.fin 6)
 (.bind true (fun b4=>(∀ i,i < r.aB.length→0≤(r.aB.getD i default).order))
 (.loop (default:Sum (Int) (Unit)) (fun i5=>i5.1.length=i5.2∧i5.2≤r.aB.length∧(∀ i,i < i5.2→0≤(r.aB.getD i default).order)) (fun i5=>r.aB.length - i5.2) (([],0):(List ByteArray) × Nat)
 (fun (i5:(List ByteArray) × Nat)=>⟨[(5,ow 100001 i5.1),(6,iv (i5.2:Int))],[(100001,cp 9 1 jV i5.1)]⟩) fun i5=>let aV:=(bM (i5.2:Int) r.aB.length); let az:=(r.aB.getD i5.2 default);
 .lt 1 1 i5.2 r.aB.length
 (.r 15 (.aj (.p aV) (.aj (.o [.cU (dG xT [az.name])]) (.aj (.o [.cU (kx xT i5.1 [az.name])]) (.aj (.t (xT.k6 [az.name])) (.p (uG i5.1.length [az.name].length 16)))))) fun _ =>
 .r 16 ((iE (i5.1++[az.name]) (i5.2:Int)).c) fun x6 =>
 .br (x6 != 0)
 (.fin (.inl (.inl x6)))
 (.r 19 (.aj (.p aV) ((ug r az).c)) fun x7 =>
 .br (!x7)
 (.fin (.inl (.inl 1)))
 (.nx 14 6 i5.2 (i5.1++[az.name],i5.2+1))))
 (.fin (.inl (.inr ()))))
 (fun (_:Unit)=>⟨[],[]⟩) fun _ =>
 .fin 0))
def j2 r:=(oQ r).val
theorem CA (r:ah):(oQ r).dq (fun (x:Int)=>x=0→r.aY.length≤8∧r.aB.length≤40∧(∀ i,i < r.aB.length→0≤(r.aB.getD i default).order)):=by
 unfold oQ
 try simp only [ug,iE]
 exact Ly
theorem Kc (r:ah):(fun (x:Int)=>x=0→r.aY.length≤8∧r.aB.length≤40∧(∀ i,i < r.aB.length→0≤(r.aB.getD i default).order)) (j2 r):=have h:=Sk.dc _ (CA r); h
theorem Oj (r:ah):(oQ r).bq (fun _=>True):=by
 unfold oQ
 try simp only [ug,iE]
 exact mH
def AE r:=kp tok mixed Tryz.func37 [av r.cells] (fun x=>iv x) true (j2 r) (u0 (Oj r)) (CA r)
def nT (r:ah):Sk (Int):=let cF:=((r.cO.length:Nat):Int);
 .br (decide (cF > 20))
 (.fin 6)
 (.bt
 (.loop (default:Sum (Int) (Unit)) (fun i2=>i2≤r.cO.length) (fun i2=>r.cO.length - i2) (0:Nat)
 (fun (i2:Nat)=>⟨[(3,iv (i2:Int))],[]⟩) fun i2 =>
 .lt 1 2 i2 r.cO.length
 (.r 6 (.aj (.p (bM (i2:Int) r.cO.length)) ((ar ((r.cO.getD i2 default).Eg) 0 9).c)) fun x3 =>
 .br (!x3)
 (.fin (.inl (.inl 1)))
 (.nx 5 3 i2 (i2+1)))
 (.fin (.inl (.inr ()))))
 (fun (_:Unit)=>⟨[],[]⟩) fun _ =>
 .br (decide (((r.bu.length:Nat):Int) > 200))
 (.fin 6)
 (.bind true (fun b4=>r.aB.length≤40→r.l6)
 (.loop (default:Sum (Int) (Unit)) (fun i5=>i5.1.length=i5.2∧i5.2≤r.bu.length∧(r.aB.length≤40→∀ q,q < i5.2→0≤(r.bu.getD q default).aL∧(r.bu.getD q default).aL < (r.aB.length:Int))) (fun i5=>r.bu.length - i5.2) (([],0):(List ByteArray) × Nat)
 (fun (i5:(List ByteArray) × Nat)=>⟨[(4,ow 100001 i5.1),(5,iv (i5.2:Int))],[(100001,cp 9 1 jV i5.1)]⟩) fun i5=>let aV:=(bM (i5.2:Int) r.bu.length); let az:=(r.bu.getD i5.2 default);
 .lt 1 3 i5.2 r.bu.length
 (.r 14 (.aj (.p aV) (.aj (.o [.cU (dG xT [az.name])]) (.aj (.o [.cU (kx xT i5.1 [az.name])]) (.aj (.t (xT.k6 [az.name])) (.p (uG i5.1.length [az.name].length 16)))))) fun _ =>
 .r 15 ((iE (i5.1++[az.name]) (i5.2:Int)).c) fun x6 =>
 .br (x6 != 0)
 (.fin (.inl (.inl x6)))
 (.r 18 (.aj (.p aV) (.dep ((ar (az.aL) 0 (aK (((r.aB.length:Nat):Int) - 1))).c) fun x7=>.aj (.wh (!x7) false (.p aV)) (.wh (!x7) false ((ar (az.group) 0 (aK (cF - 1))).c)))) fun p9 =>
 .br ((!p9.1)||(!p9.2))
 (.fin (.inl (.inl 1)))
 (.nx 13 5 i5.2 (i5.1++[az.name],i5.2+1))))
 (.fin (.inl (.inr ()))))
 (fun (_:Unit)=>⟨[],[]⟩) fun _ =>
 .fin 0))
def sa r:=(nT r).val
theorem Ol (r:ah) (hP:r.aB.length≤40):(nT r).dq (fun (x:Int)=>x=0→r.cO.length≤20∧r.bu.length≤200∧r.l6):=by
 refine Sk.bh _ ?_
 unfold nT
 simp only [Sk.cK,Sk.aD,reduceCtorEq,ON,kk,kp,ar,iE,aW,forall_eq,ah.l6,maxLen]
 all_goals exact agC
theorem MD (r:ah):(fun (x:Int)=>(r.aB.length≤40)→(x=0→r.cO.length≤20∧r.bu.length≤200∧r.l6)) (sa r):=fun hP=>have h:=Sk.dc _ (Ol r hP); h
theorem RC (r:ah):(nT r).bq (fun _=>True):=by
 refine Sk.aO _ ?_
 unfold nT
 simp only [Sk.gx,Sk.aD,reduceCtorEq,ON,kk,kp,ar,iE,aW,forall_eq,ah.l6,maxLen]
 all_goals exact agC
def CB r:=kk tok mixed Tryz.func38 [av r.cells] (fun x=>iv x) true (nT r) (sa r) (u0 (RC r)) (fun (x:Int)=>(r.aB.length≤40)→(x=0→r.cO.length≤20∧r.bu.length≤200∧r.l6)) (MD r)
def jP (o:Order):Sk (Bool) :=
 .bind true (fun b1=>∀ j:Nat,j < o.aE.length→((j:Int)≤(o.aE.getD j default).ask∧(o.aE.getD j default).ask≤21)∧0≤(o.aE.getD j default).ka∧(o.aE.getD j default).ka < 5∧(j≠0→(o.aE.getD (j - 1) default).ask < (o.aE.getD j default).ask))
 (.loop (default:Sum (Bool) (Unit)) (fun i2=>(∀ j:Nat,j < i2→((j:Int)≤(o.aE.getD j default).ask∧(o.aE.getD j default).ask≤21)∧0≤(o.aE.getD j default).ka∧(o.aE.getD j default).ka < 5∧(j≠0→(o.aE.getD (j - 1) default).ask < (o.aE.getD j default).ask))∧i2≤o.aE.length) (fun i2=>o.aE.length - i2) (0:Nat)
 (fun (i2:Nat)=>⟨[(3,iv (i2:Int))],[]⟩) fun i2=>let az:=(o.aE.getD i2 default);
 .lt 1 2 i2 o.aE.length
 (.r 4 (.aj (.p (bM (i2:Int) o.aE.length)) (.dep ((ar (az.ask) 0 21).c) fun x3=>.aj (.wh (!x3) false (.p (bM (i2:Int) o.aE.length))) (.wh (!x3) false ((ar (az.ka) 0 4).c)))) fun p5 =>
 .br ((!p5.1)||(!p5.2))
 (.fin (.inl (.inl false)))
 (.r 6 (.aj (.wh (decide ((i2:Int) > 0)) true (.p (bM (aK ((i2:Int) - 1)) o.aE.length))) (.wh (decide ((i2:Int) > 0)) true (.p (bM (i2:Int) o.aE.length)))) fun _ =>
 .br ((decide ((i2:Int) > 0))&&(decide (((o.aE.getD ((aK ((i2:Int) - 1)).toNat) default).ask)≥(az.ask))))
 (.fin (.inl (.inl false)))
 (.nx 3 3 i2 (i2+1))))
 (.fin (.inl (.inr ()))))
 (fun (_:Unit)=>⟨[],[]⟩) fun _ =>
 .bind true (fun b6=>∀ j:Nat,j < o.rules.length→(j:Int)≤(o.rules.getD j default).ask∧(o.rules.getD j default).ask≤21)
 (.loop (default:Sum (Bool) (Unit)) (fun i7=>(∀ j:Nat,j < i7→(j:Int)≤(o.rules.getD j default).ask∧(o.rules.getD j default).ask≤21)∧i7≤o.rules.length) (fun i7=>o.rules.length - i7) (0:Nat)
 (fun (i7:Nat)=>⟨[(4,iv (i7:Int))],[]⟩) fun i7=>let aV:=((o.rules.getD i7 default).ask);
 .lt 1 3 i7 o.rules.length
 (.r 11 (.aj (.p (bM (i7:Int) o.rules.length)) ((ar aV 0 21).c)) fun x8 =>
 .br (!x8)
 (.fin (.inl (.inl false)))
 (.r 13 (.aj (.wh (decide ((i7:Int) > 0)) true (.p (bM (aK ((i7:Int) - 1)) o.rules.length))) (.wh (decide ((i7:Int) > 0)) true (.p (bM (i7:Int) o.rules.length)))) fun _ =>
 .br ((decide ((i7:Int) > 0))&&(decide (((o.rules.getD ((aK ((i7:Int) - 1)).toNat) default).ask)≥aV)))
 (.fin (.inl (.inl false)))
 (.nx 10 4 i7 (i7+1))))
 (.fin (.inl (.inr ()))))
 (fun (_:Unit)=>⟨[],[]⟩) fun _ =>
 .fin true
def kO o:=(jP o).val
theorem wg (o:Order):(jP o).dq (fun (x:Bool)=>x=true→(∀ j,j < o.aE.length→0≤(o.aE.getD j default).ka∧(o.aE.getD j default).ka < 5)∧o.aE.length≤22∧o.rules.length≤22∧Q7 o):=by
 refine Sk.bh _ ?_
 unfold jP
 simp only [Sk.cK,Sk.aD,reduceCtorEq,ON,kk,kp,ar,aW,forall_eq,maxLen]
 refine ⟨⟨⟨fun j hj=>absurd hj (by omega),Nat.zero_le _⟩,fun i hi=>⟨fun hc h1 _ h2 _=>?_,fun hc j hj=>?_⟩⟩,fun _ hJ=>⟨⟨⟨fun j hj=>absurd hj (by omega),Nat.zero_le _⟩,fun i hi=>⟨fun hc h1 _ h2 _=>?_,fun hc j hj=>?_⟩⟩,fun _ hJ2=>⟨fun j hj=>⟨(hJ j hj).2.1,(hJ j hj).2.2.1⟩,?_,?_,fun j hj h0=>(hJ j hj).2.2.2 h0⟩⟩⟩
 rotate_right
 rotate_right
 ·rcases Nat.lt_or_ge 22 o.aE.length with h | h
  ·have:=(hJ 22 h).1; omega
  ·exact h
 ·rcases Nat.lt_or_ge 22 o.rules.length with h | h
  ·have:=hJ2 22 h; omega
  ·exact h
 all_goals simp only [LN] at hc
 ·simp only [LN] at h1 h2
  refine ⟨⟨fun j hj=>?_,by omega⟩,by omega⟩
  by_cases e:j=i
  ·subst e
   refine ⟨⟨?_,by omega⟩,by omega,by omega,fun hj0=>?_⟩
   rotate_left
   ·have h3:=hi.1 (j - 1) (by omega)
    have h4:=h2.resolve_left (by omega)
    rw [aq (by omega) (by omega),show ((j:Int) - 1).toNat=j - 1 by omega] at h4
    omega
   by_cases e0:j=0
   ·subst e0; omega
   ·have h3:=hi.1 (j - 1) (by omega)
    have h4:=h2.resolve_left (by omega)
    rw [aq (by omega) (by omega),show ((j:Int) - 1).toNat=j - 1 by omega] at h4
    omega
  ·exact hi.1 j (by omega)
 ·exact hi.1 j (by omega)
 ·simp only [LN] at h1 h2
  refine ⟨⟨fun j hj=>?_,by omega⟩,by omega⟩
  by_cases e:j=i
  ·subst e
   refine ⟨?_,by omega⟩
   by_cases e0:j=0
   ·subst e0; omega
   ·have h3:=hi.1 (j - 1) (by omega)
    have h4:=h2.resolve_left (by omega)
    rw [aq (by omega) (by omega),show ((j:Int) - 1).toNat=j - 1 by omega] at h4
    omega
  ·exact hi.1 j (by omega)
 ·exact hi.1 j (by omega)
theorem D7 (o:Order):(fun (x:Bool)=>x=true→(∀ j,j < o.aE.length→0≤(o.aE.getD j default).ka∧(o.aE.getD j default).ka < 5)∧o.aE.length≤22∧o.rules.length≤22∧Q7 o) (kO o):=have h:=Sk.dc _ (wg o); h
theorem GH (o:Order):(jP o).bq (fun _=>True):=by
 refine Sk.aO _ ?_
 unfold jP
 simp only [Sk.gx,Sk.aD,reduceCtorEq,ON,kk,kp,ar,aW,forall_eq,maxLen]
 refine ⟨⟨⟨fun j hj=>absurd hj (by omega),Nat.zero_le _⟩,fun i hi hm=>⟨fun hc=>⟨⟨?_,fun _=>?_⟩,fun h1=>⟨⟨fun h3=>?_,fun _=>?_⟩,fun _ h2 _=>⟨?_,?_⟩⟩⟩,fun hc j hj=>?_⟩⟩,fun _ hJ=>⟨⟨fun j hj=>absurd hj (by omega),Nat.zero_le _⟩,fun i hi hm=>⟨fun hc=>⟨?_,fun h1=>⟨⟨fun h3=>?_,fun _=>?_⟩,fun _ h2 _=>⟨?_,?_⟩⟩⟩,fun hc j hj=>?_⟩⟩⟩
 all_goals simp only [LN] at hc
 ·exact ⟨by omega,by omega⟩
 ·exact ⟨by omega,by omega⟩
 ·simp only [LN] at h3
  rw [aq (by omega) (by omega)]
  exact ⟨by omega,by omega⟩
 ·exact ⟨by omega,by omega⟩
 ·exact (aq (by omega) (by omega)).trans (by omega)
 ·simp only [LN] at h1 h2
  refine ⟨⟨fun j hj=>?_,by omega⟩,by omega⟩
  by_cases e:j=i
  ·subst e
   refine ⟨⟨?_,by omega⟩,by omega,by omega,fun hj0=>?_⟩
   rotate_left
   ·have h3:=hi.1 (j - 1) (by omega)
    have h4:=h2.resolve_left (by omega)
    rw [aq (by omega) (by omega),show ((j:Int) - 1).toNat=j - 1 by omega] at h4
    omega
   by_cases e0:j=0
   ·subst e0; omega
   ·have h3:=hi.1 (j - 1) (by omega)
    have h4:=h2.resolve_left (by omega)
    rw [aq (by omega) (by omega),show ((j:Int) - 1).toNat=j - 1 by omega] at h4
    omega
  ·exact hi.1 j (by omega)
 ·exact hi.1 j (by omega)
 ·exact ⟨by omega,by omega⟩
 ·simp only [LN] at h3
  rw [aq (by omega) (by omega)]
  exact ⟨by omega,by omega⟩
 ·exact ⟨by omega,by omega⟩
 ·exact (aq (by omega) (by omega)).trans (by omega)
 ·simp only [LN] at h1 h2
  refine ⟨⟨fun j hj=>?_,by omega⟩,by omega⟩
  by_cases e:j=i
  ·subst e
   refine ⟨?_,by omega⟩
   by_cases e0:j=0
   ·subst e0; omega
   ·have h3:=hi.1 (j - 1) (by omega)
    have h4:=h2.resolve_left (by omega)
    rw [aq (by omega) (by omega),show ((j:Int) - 1).toNat=j - 1 by omega] at h4
    omega
  ·exact hi.1 j (by omega)
 ·exact hi.1 j (by omega)
def sb o:=kp tok mixed Tryz.func86 [av o.cells] (fun x=>bv x) true (kO o) (u0 (GH o)) (wg o)
def oS (r:ah):Sk (Int) :=
 .br (decide (((r.ak.length:Nat):Int) > 20))
 (.fin 6)
 (.bind true (fun b1=>r.cx∧(∀ i,i < r.ak.length→(r.ak.getD i default).aE.length≤22∧(r.ak.getD i default).rules.length≤22)∧(∀ i,i < r.ak.length→Q7 (r.ak.getD i default)))
 (.loop (default:Sum (Int) (Unit)) (fun i2=>i2.1.length=i2.2∧i2.2≤r.ak.length∧(∀ i j,i < i2.2→j < (r.ak.getD i default).aE.length→0≤((r.ak.getD i default).aE.getD j default).ka∧((r.ak.getD i default).aE.getD j default).ka < 5)∧(∀ i,i < i2.2→(r.ak.getD i default).aE.length≤22∧(r.ak.getD i default).rules.length≤22)∧(∀ i,i < i2.2→Q7 (r.ak.getD i default))) (fun i2=>r.ak.length - i2.2) (([],0):(List ByteArray) × Nat)
 (fun (i2:(List ByteArray) × Nat)=>⟨[(3,ow 100001 i2.1),(4,iv (i2.2:Int))],[(100001,cp 9 1 jV i2.1)]⟩) fun i2=>let aV:=(bM (i2.2:Int) r.ak.length); let az:=(r.ak.getD i2.2 default);
 .lt 1 4 i2.2 r.ak.length
 (.r 7 (.aj (.p aV) (.aj (.o [.cU (dG xT [az.name])]) (.aj (.o [.cU (kx xT i2.1 [az.name])]) (.aj (.t (xT.k6 [az.name])) (.p (uG i2.1.length [az.name].length 16)))))) fun _ =>
 .r 8 ((iE (i2.1++[az.name]) (i2.2:Int)).c) fun x3 =>
 .br (x3 != 0)
 (.fin (.inl (.inl x3)))
 (.r 11 (.aj (.p aV) ((sb az).c)) fun x4 =>
 .br (!x4)
 (.fin (.inl (.inl 1)))
 (.nx 6 4 i2.2 (i2.1++[az.name],i2.2+1))))
 (.fin (.inl (.inr ()))))
 (fun (_:Unit)=>⟨[],[]⟩) fun _ =>
 .fin 0)
def nh r:=(oS r).val
theorem CD (r:ah):(oS r).dq (fun (x:Int)=>x=0→r.cx∧r.ak.length≤20∧(∀ i,i < r.ak.length→(r.ak.getD i default).aE.length≤22∧(r.ak.getD i default).rules.length≤22)∧(∀ i,i < r.ak.length→Q7 (r.ak.getD i default))):=by
 refine Sk.bh _ ?_
 unfold oS
 simp only [Sk.cK,Sk.aD,reduceCtorEq,ON,kk,kp,sb,iE,maxLen]
 refine ⟨fun _ h=>absurd h (by decide),fun h20=>⟨⟨⟨rfl,Nat.zero_le _,fun i j h=>absurd h (by omega),fun i h=>absurd h (by omega),fun i h=>absurd h (by omega)⟩,fun i hi=>⟨fun hc _ x _=>⟨fun hx h0=>?_,fun hx y _ hy=>⟨fun _ h=>absurd h (by decide),fun hyt _=>?_⟩⟩,fun hc=>?_⟩⟩,fun b hb=>?_⟩⟩
 ·rw [h0] at hx; exact absurd hx (by decide)
 ·simp only [LN] at hc hyt
  have hy:=hy hyt
  refine ⟨⟨by rw [List.length_append]; show i.1.length+1=_; omega,by omega,fun a b ha hb=>?_,fun a ha=>?_,fun a ha=>?_⟩,by omega⟩
  ·rcases Nat.lt_succ_iff_lt_or_eq.1 ha with h | rfl
   ·exact hi.2.2.1 a b h hb
   ·exact hy.1 b hb
  ·rcases Nat.lt_succ_iff_lt_or_eq.1 ha with h | rfl
   ·exact hi.2.2.2.1 a h
   ·exact ⟨hy.2.1,hy.2.2.1⟩
  ·rcases Nat.lt_succ_iff_lt_or_eq.1 ha with h | rfl
   ·exact hi.2.2.2.2 a h
   ·exact hy.2.2.2
 ·simp only [LN] at hc
  exact ⟨fun a b ha hb=>hi.2.2.1 a b (by omega) hb,fun a ha=>hi.2.2.2.1 a (by omega),fun a ha=>hi.2.2.2.2 a (by omega)⟩
 ·simp only [LN] at h20
  exact ⟨hb.1,by omega,hb.2.1,hb.2.2⟩
theorem Kd (r:ah):(fun (x:Int)=>x=0→r.cx∧r.ak.length≤20∧(∀ i,i < r.ak.length→(r.ak.getD i default).aE.length≤22∧(r.ak.getD i default).rules.length≤22)∧(∀ i,i < r.ak.length→Q7 (r.ak.getD i default))) (nh r):=have h:=Sk.dc _ (CD r); h
theorem Om (r:ah):(oS r).bq (fun _=>True):=by
 refine Sk.aO _ ?_
 unfold oS
 simp only [Sk.gx,Sk.aD,reduceCtorEq,ON,kk,kp,sb,iE,maxLen]
 refine fun h20=>⟨⟨rfl,Nat.zero_le _,fun i j h=>absurd h (by omega),fun i h=>absurd h (by omega),fun i h=>absurd h (by omega)⟩,fun i hi hm=>⟨fun hc=>⟨⟨⟨by omega,of_decide_eq_true hc⟩,?_,?_⟩,fun _=>⟨⟨by omega,?_⟩,fun x _ hx=>⟨⟨by omega,of_decide_eq_true hc⟩,fun y _ hy hyt _=>?_⟩⟩⟩,fun hc=>?_⟩⟩
 all_goals simp only [LN] at h20
 ·show i.1.length+1≤_; omega
 ·show (i.1.length+1) * 16≤_; omega
 ·rw [List.length_append]; show _ < ((i.1.length+1:Nat):Int); omega
 ·simp only [LN] at hc hyt
  have hy:=hy hyt
  refine ⟨(aq (by omega) (by omega)).trans (by omega),⟨by rw [List.length_append]; show i.1.length+1=_; omega,by omega,fun a b ha hb=>?_,fun a ha=>?_,fun a ha=>?_⟩,by omega⟩
  ·rcases Nat.lt_succ_iff_lt_or_eq.1 ha with h | rfl
   ·exact hi.2.2.1 a b h hb
   ·exact hy.1 b hb
  ·rcases Nat.lt_succ_iff_lt_or_eq.1 ha with h | rfl
   ·exact hi.2.2.2.1 a h
   ·exact ⟨hy.2.1,hy.2.2.1⟩
  ·rcases Nat.lt_succ_iff_lt_or_eq.1 ha with h | rfl
   ·exact hi.2.2.2.2 a h
   ·exact hy.2.2.2
 ·simp only [LN] at hc
  exact ⟨fun a b ha hb=>hi.2.2.1 a b (by omega) hb,fun a ha=>hi.2.2.2.1 a (by omega),fun a ha=>hi.2.2.2.2 a (by omega)⟩
def AF r:=kp tok mixed Tryz.func39 [av r.cells] (fun x=>iv x) true (nh r) (u0 (Om r)) (CD r)
def kP (r:ah):Sk (Int):=let aV:=((r.aB.length:Nat):Int);
 .br (decide (((r.aR.length:Nat):Int) > 100))
 (.fin 6)
 (.bt
 (.loop (default:Sum (Int) (Unit)) (fun i2=>i2≤r.aR.length) (fun i2=>r.aR.length - i2) (0:Nat)
 (fun (i2:Nat)=>⟨[(3,iv (i2:Int))],[]⟩) fun i2=>let eG:=(i2:Int); let az:=(r.aR.getD i2 default);
 .lt 1 5 i2 r.aR.length
 (.bt
 (.r 6 (.p (bM eG r.aR.length)) fun _ =>
 .r 7 (.dep ((ar (az.from_) 0 (aK (aV - 1))).c) fun x4=>.dep (.wh (!x4) false ((ar (az.cr) 0 (aK (aV - 1))).c)) fun x5=>.wh ((!x4)||(!x5)) false ((ar (az.days) 1 20000).c)) fun p9 =>
 .br (((!p9.1)||(!p9.2.1))||(!p9.2.2))
 (.fin (.inl (.inl (.inl 1))))
 (.bt
 (.loop (default:Sum (Sum (Sum (Sum (Int) (Unit)) (Nat)) (Int × (List dJ) × Int × dJ × Int × (List eB) × Int × Int × Bool × Bool × Bool × Bool × Bool × Bool × Int × Int × Bool)) (Int × Int × Int × Bool)) (fun i8=>i8≤i2) (fun i8=>i2 - i8) (0:Nat)
 (fun (i8:Nat)=>⟨[(5,iv (i8:Int))],[]⟩) fun i8=>let rz:=(r.aR.getD i8 default); let kV:=((rz.from_) == (az.from_)); let cF:=(i8:Int);
 .br (decide (cF < eG))
 (.r 12 (.aj (.p (bM cF r.aR.length)) (.wh kV true (.p (bM cF r.aR.length)))) fun _ =>
 .br (kV&&((rz.cr) == (az.cr)))
 (.fin (.inl (.inl (.inl (.inl (.inl 5))))))
 (.nx 11 5 i8 (i8+1)))
 (.fin (.inl (.inr (cF,cF,eG,decide (cF < eG))))))
 (fun (b7:Int × Int × Int × Bool)=>⟨[(5,iv b7.1),(46,iv b7.2.1),(47,iv b7.2.2.1),(48,bv b7.2.2.2)],[]⟩) fun b7 =>
 .fin (.inr (b7.1,r.aR,eG,r.aR.getD i2 default,az.from_,r.aB,aV,aK (aV - 1),p9.1,!p9.1,!p9.1,(!p9.1)||(!p9.2.1),(!p9.1)||(!p9.2.1),((!p9.1)||(!p9.2.1))||(!p9.2.2),b7.2.1,b7.2.2.1,b7.2.2.2))))
 (fun (b3:Int × (List dJ) × Int × dJ × Int × (List eB) × Int × Int × Bool × Bool × Bool × Bool × Bool × Bool × Int × Int × Bool)=>⟨[(5,iv b3.1),(18,lv dJ.cells b3.2.1),(19,iv b3.2.2.1),(21,av b3.2.2.2.1.cells),(23,iv b3.2.2.2.2.1),(25,lv eB.cells b3.2.2.2.2.2.1),(26,iv b3.2.2.2.2.2.2.1),(27,iv b3.2.2.2.2.2.2.2.1),(28,bv b3.2.2.2.2.2.2.2.2.1),(29,bv b3.2.2.2.2.2.2.2.2.2.1),(30,bv b3.2.2.2.2.2.2.2.2.2.2.1),(39,bv b3.2.2.2.2.2.2.2.2.2.2.2.1),(40,bv b3.2.2.2.2.2.2.2.2.2.2.2.2.1),(45,bv b3.2.2.2.2.2.2.2.2.2.2.2.2.2.1),(46,iv b3.2.2.2.2.2.2.2.2.2.2.2.2.2.2.1),(47,iv b3.2.2.2.2.2.2.2.2.2.2.2.2.2.2.2.1),(48,bv b3.2.2.2.2.2.2.2.2.2.2.2.2.2.2.2.2)],[]⟩) fun _ =>
 .nx 5 3 i2 (i2+1))
 (.fin (.inl (.inr ()))))
 (fun (_:Unit)=>⟨[],[]⟩) fun _ =>
 .fin 0)
def tF r:=(kP r).val
theorem Ke (r:ah):(kP r).dq (fun (x:Int)=>x=0→r.aR.length≤100):=by
 unfold kP
 try simp only [ar,aW]
 exact Yp
theorem ME (r:ah):(kP r).bq (fun _=>True):=by
 unfold kP
 try simp only [ar,aW]
 exact xV
def yx r:=kp tok mixed Tryz.func40 [av r.cells] (fun x=>iv x) true (tF r) (u0 (ME r)) (Ke r)
def lV (r:ah):Sk (Int):=let cF:=(aK (((r.aY.length:Nat):Int) - 1));
 .br (decide (((r.cg.length:Nat):Int) > 100))
 (.fin 6)
 (.bind true (fun b1=>r.gV)
 (.loop (default:Sum (Int) (Unit)) (fun i2=>i2≤r.cg.length∧(∀ i,i < i2→(1≤(r.cg.getD i default).num∧(r.cg.getD i default).num≤1073741824)∧1≤(r.cg.getD i default).den∧(r.cg.getD i default).den≤1073741824)) (fun i2=>r.cg.length - i2) (0:Nat)
 (fun (i2:Nat)=>⟨[(3,iv (i2:Int))],[]⟩) fun i2=>let az:=(r.cg.getD i2 default);
 .lt 1 6 i2 r.cg.length
 (.r 6 (.p (bM (i2:Int) r.cg.length)) fun _ =>
 .r 7 (.dep ((ar (az.from_) 0 cF).c) fun x3=>.wh (!x3) false ((ar (az.cr) 0 cF).c)) fun p9 =>
 .br (((!p9.1)||(!p9.2))||((az.from_) == (az.cr)))
 (.fin (.inl (.inl 1)))
 (.r 9 (.dep ((ar (az.num) 1 1073741824).c) fun x5=>.dep (.wh (!x5) false ((ar (az.den) 1 1073741824).c)) fun x6=>.wh ((!x5)||(!x6)) false ((ar (az.since) 0 100000).c)) fun p8 =>
 .br (((!p8.1)||(!p8.2.1))||(!p8.2.2))
 (.fin (.inl (.inl 1)))
 (.nx 5 3 i2 (i2+1))))
 (.fin (.inl (.inr ()))))
 (fun (_:Unit)=>⟨[],[]⟩) fun _ =>
 .br (decide (((r.ca.length:Nat):Int) > 20))
 (.fin 6)
 (.bind true (fun b10=>r.cj)
 (.loop (default:Sum (Int) (Unit)) (fun i11=>i11≤r.ca.length∧(∀ i,i < i11→(r.ca.getD i default).cr≤100000)) (fun i11=>r.ca.length - i11) (0:Nat)
 (fun (i11:Nat)=>⟨[(5,iv (i11:Int))],[]⟩) fun i11=>let aV:=(r.ca.getD i11 default);
 .lt 1 7 i11 r.ca.length
 (.r 16 (.p (bM (i11:Int) r.ca.length)) fun _ =>
 .r 17 (.dep ((ar (aV.order) 0 (aK (((r.ak.length:Nat):Int) - 1))).c) fun ZI=>.wh (!ZI) false ((ar (aV.from_) 0 (aV.cr)).c)) fun p14 =>
 .br (((!p14.1)||(!p14.2))||(decide ((aV.cr) > 100000)))
 (.fin (.inl (.inl 1)))
 (.nx 15 5 i11 (i11+1)))
 (.fin (.inl (.inr ()))))
 (fun (_:Unit)=>⟨[],[]⟩) fun _ =>
 .fin 0))
def wj r:=(lV r).val
theorem MF (r:ah):(lV r).dq (fun (x:Int)=>x=0→r.cg.length≤100∧r.ca.length≤20∧r.gV∧r.cj):=by
 unfold lV
 try simp only [ar,aW,ah.cj,ah.gV]
 exact Yp
theorem Oo (r:ah):(lV r).bq (fun _=>True):=by
 unfold lV
 try simp only [ar,aW,ah.cj,ah.gV]
 exact xV
def AG r:=kp tok mixed Tryz.func41 [av r.cells] (fun x=>iv x) true (wj r) (u0 (Oo r)) (MF r)
def qX (r:ah):Sk (Int) :=
 .r 1 ((AE r).c) fun x1 =>
 .bind false (fun b2=>b2=0→r.aY.length≤8∧r.aB.length≤40∧r.cO.length≤20∧r.bu.length≤200∧r.l6)
 (.br (x1 == 0)
 (.r 3 ((CB r).c) fun x3 =>
 .fin (.inr x3))
 (.fin (.inr x1)))
 (fun (b2:Int)=>⟨[(3,iv b2)],[]⟩) fun b2 =>
 .bind false (fun b4=>b4=0→r.aY.length≤8∧r.aB.length≤40∧r.cO.length≤20∧r.bu.length≤200∧r.l6∧r.cx∧r.ak.length≤20∧(∀ i,i < r.ak.length→(r.ak.getD i default).aE.length≤22∧(r.ak.getD i default).rules.length≤22))
 (.br (b2 == 0)
 (.r 5 ((AF r).c) fun x5 =>
 .fin (.inr x5))
 (.fin (.inr b2)))
 (fun (b4:Int)=>⟨[(3,iv b4)],[]⟩) fun b4 =>
 .bind false (fun b6=>b6=0→r.aY.length≤8∧r.aB.length≤40∧r.cO.length≤20∧r.bu.length≤200∧r.l6∧r.cx∧r.ak.length≤20∧(∀ i,i < r.ak.length→(r.ak.getD i default).aE.length≤22∧(r.ak.getD i default).rules.length≤22)∧r.aR.length≤100)
 (.br (b4 == 0)
 (.r 7 ((yx r).c) fun x7 =>
 .fin (.inr x7))
 (.fin (.inr b4)))
 (fun (b6:Int)=>⟨[(3,iv b6)],[]⟩) fun b6 =>
 .br (b6 == 0)
 (.r 9 ((AG r).c) fun x8 =>
 .fin x8)
 (.fin b6)
def kQ r:=(qX r).val
theorem Oq (r:ah):(qX r).dq (fun (x:Int)=>x=0→r.aY.length≤8∧r.aB.length≤40∧r.cO.length≤20∧r.bu.length≤200∧r.l6∧r.cx∧r.ak.length≤20∧(∀ i,i < r.ak.length→(r.ak.getD i default).aE.length≤22∧(r.ak.getD i default).rules.length≤22)∧r.aR.length≤100∧r.cg.length≤100∧r.ca.length≤20∧r.gV∧r.cj):=by
 refine Sk.bh _ ?_
 unfold qX
 simp only [Sk.cK,Sk.aD,reduceCtorEq,ON,kk,kp,AE,CB,AF,AG,yx,maxLen]
 intro x _ hx
 refine ⟨⟨fun h y _ hy h0=>?_,fun h h0=>?_⟩,fun b _ hb=>⟨⟨fun h y _ hy h0=>?_,fun h h0=>?_⟩,fun b2 _ Bb=>⟨⟨fun h y _ hy h0=>?_,fun h h0=>?_⟩,fun b3 _ Jn=>⟨fun h y _ hy h0=>?_,fun h h0=>?_⟩⟩⟩⟩
 ·have hx:=hx (by simpa using h); have hy:=hy hx.2.1 h0; exact ⟨hx.1,hx.2.1,hy⟩
 ·rw [h0] at h; exact absurd h (by decide)
 ·have hb:=hb (by simpa using h); exact ⟨hb.1,hb.2.1,hb.2.2.1,hb.2.2.2.1,hb.2.2.2.2,(hy h0).1,(hy h0).2.1,(hy h0).2.2.1⟩
 ·rw [h0] at h; exact absurd h (by decide)
 ·have hb:=Bb (by simpa using h); exact ⟨hb.1,hb.2.1,hb.2.2.1,hb.2.2.2.1,hb.2.2.2.2.1,hb.2.2.2.2.2.1,hb.2.2.2.2.2.2.1,hb.2.2.2.2.2.2.2,hy h0⟩
 ·rw [h0] at h; exact absurd h (by decide)
 ·have hb:=Jn (by simpa using h); exact ⟨hb.1,hb.2.1,hb.2.2.1,hb.2.2.2.1,hb.2.2.2.2.1,hb.2.2.2.2.2.1,hb.2.2.2.2.2.2.1,hb.2.2.2.2.2.2.2.1,hb.2.2.2.2.2.2.2.2,hy h0⟩
 ·rw [h0] at h; exact absurd h (by decide)
theorem RD (r:ah):(qX r).bq (fun _=>True):=by
 refine Sk.aO _ ?_
 unfold qX
 simp only [Sk.gx,Sk.aD,reduceCtorEq,ON,kk,kp,AE,CB,AF,AG,yx,maxLen]
 intro x _ hx
 refine ⟨⟨fun h y _ hy h0=>?_,fun h h0=>?_⟩,fun b _ hb=>⟨⟨fun h y _ hy h0=>?_,fun h h0=>?_⟩,fun b2 _ Bb=>⟨fun h y _ hy h0=>?_,fun h h0=>?_⟩⟩⟩
 ·have hx:=hx (by simpa using h); have hy:=hy hx.2.1 h0; exact ⟨hx.1,hx.2.1,hy⟩
 ·rw [h0] at h; exact absurd h (by decide)
 ·have hb:=hb (by simpa using h); exact ⟨hb.1,hb.2.1,hb.2.2.1,hb.2.2.2.1,hb.2.2.2.2,(hy h0).1,(hy h0).2.1,(hy h0).2.2.1⟩
 ·rw [h0] at h; exact absurd h (by decide)
 ·have hb:=Bb (by simpa using h); exact ⟨hb.1,hb.2.1,hb.2.2.1,hb.2.2.2.1,hb.2.2.2.2.1,hb.2.2.2.2.2.1,hb.2.2.2.2.2.2.1,hb.2.2.2.2.2.2.2,hy h0⟩
 ·rw [h0] at h; exact absurd h (by decide)
def jQ r:=kp tok mixed Tryz.func17 [av r.cells] (fun x=>iv x) true (kQ r) (u0 (RD r)) (Oq r)
def CE (rv:Term→Int→Int→Int) (rp:Term→Int→Int→Prop) (rf:∀ (t:Term) (n:Int) (levels:Int),rp t n levels→jl Tryz.prog 42 [av t.cells,iv n,iv levels] [] (iv (rv t n levels)) []) (t:Term) (n:Int) (levels:Int):fD (Int):=⟨Tryz.prog,42,[av t.cells,iv n,iv levels],fun x=>iv x,true,rv t n levels,rp t n levels,rf t n levels,fun _=>True,trivial⟩
def kY (rv:Term→Int→Int→Int) (rp:Term→Int→Int→Prop) (rf:∀ (t:Term) (n:Int) (levels:Int),rp t n levels→jl Tryz.prog 42 [av t.cells,iv n,iv levels] [] (iv (rv t n levels)) []) (t:Term) (n:Int) (levels:Int):Sk (Int) :=
 .br (decide (levels < 1))
 (.fin (-1))
 (.bt
 (.loop (default:Sum (Int) (Int)) (fun i2=>i2.2≤t.args.length) (fun i2=>t.args.length - i2.2) ((aK (n - 1),0):Int × Nat)
 (fun (i2:Int × Nat)=>⟨[(1,iv i2.1),(7,iv (i2.2:Int))],[]⟩) fun i2 =>
 .Eb 3 2 t.args.length <|
 .br ((decide ((i2.2:Int) < ((t.args.length:Nat):Int)))&&(decide (i2.1≥0)))
 (.r 7 (.aj (.aj (.p (bM (i2.2:Int) t.args.length)) (.o [.cast 26 (Zv (Term.EI (t.args.getD i2.2 default)))])) ((CE rv rp rf (t.args.getD i2.2 default) i2.1 (aK (levels - 1))).c)) fun x3 =>
 .nx 6 7 i2.2 (x3,i2.2+1))
 (.fin (.inl (.inr i2.1))))
 (fun (b1:Int)=>⟨[(1,iv b1)],[]⟩) fun b1 =>
 .fin b1)
def cD:Nat→Term→Int→Int→Int
 | 0,_,_,_=>default
 | fu+1,t,n,levels=>(kY (cD fu) (fun _ _ _=>False) (fun _ _ _=>fun h=>h.elim) t n levels).val
theorem UP (fu:Nat) (rf:∀ (t:Term) (n:Int) (levels:Int),t.depth≤fu∧True→jl Tryz.prog 42 [av t.cells,iv n,iv levels] [] (iv (cD fu t n levels)) []) (t:Term) (n:Int) (levels:Int) (hm:t.depth≤fu+1):(kY (cD fu) (fun t n levels=>t.depth≤fu∧True) rf t n levels).bq (fun _=>True):=by
 refine Sk.aO _ ?_
 unfold kY
 simp only [Sk.gx,Sk.aD,reduceCtorEq,ON,kk,kp,CE,maxLen]
 all_goals (repeat' first | assumption | (apply And.intro) | (intro h))
 all_goals first | trivial | assumption | omega | (refine Nat.le_of_lt_succ (Nat.lt_of_lt_of_le (Term.gU t _ (by (try simp only [LN] at *); omega)) hm)) | ((try simp only [LN] at *) <;> first | omega | (refine (aq ?_ ?_).trans ?_ <;> omega) | (simp (disch:=omega) only [aq] at *; omega) | (grind) | (simp_all; done) | (simp_all; omega))
theorem RE (fu:Nat) (rp:Term→Int→Int→Prop) (rf:∀ (t:Term) (n:Int) (levels:Int),rp t n levels→jl Tryz.prog 42 [av t.cells,iv n,iv levels] [] (iv (cD fu t n levels)) []) (t:Term) (n:Int) (levels:Int):(kY (cD fu) rp rf t n levels).val=cD (fu+1) t n levels:=by kernel_rfl
theorem RF (fu:Nat):∀ (t:Term) (n:Int) (levels:Int),t.depth≤fu→jl Tryz.prog 42 [av t.cells,iv n,iv levels] [] (iv (cD fu t n levels)) []:=by
 induction fu with
 | zero=>intro t n levels hm; exact absurd hm (by have:=Term.gK t; omega)
 | succ fu ih =>
  intro t n levels hm
  have h:jl Tryz.prog 42 [av t.cells,iv n,iv levels] [] (iv ((kY (cD fu) (fun t n levels=>t.depth≤fu∧True) (fun t n levels h=>ih t n levels h.1) t n levels).val)) []:=jl.sk tok mixed (fun x=>iv x) (fun _=>[]) Tryz.func42 rfl (by kernel_rfl) 3000 (kY (cD fu) (fun t n levels=>t.depth≤fu∧True) (fun t n levels h=>ih t n levels h.1) t n levels) (by kernel_rfl) (UP fu _ t n levels hm)
  rw [RE] at h
  exact h
def UQ (t:Term) (n:Int) (levels:Int):Int:=cD (t.depth) t n levels
theorem UR (t:Term) (n:Int) (levels:Int):jl Tryz.prog 42 [av t.cells,iv n,iv levels] [] (iv (UQ t n levels)) []:=RF _ t n levels (Nat.le_refl _)
def AH (t:Term) (n:Int) (levels:Int):fD (Int):=⟨Tryz.prog,42,[av t.cells,iv n,iv levels],fun x=>iv x,true,UQ t n levels,True,fun _=>UR t n levels,fun _=>True,trivial⟩
mutual
def Term.nodes:Term→Int
 | ⟨_,_,args⟩=>Term.iu args+1
def Term.iu:List Term→Int
 | []=>0
 | x :: r=>x.nodes+Term.iu r
end
def pQ (fu:Nat) (l:Int) (x:Term) (s:Int):(Int ⊕ Int) ⊕ Int:=bif decide (s≥0) then .inr (cD fu x s (aK (l - 1))) else .inl (.inr s)
theorem ZO (fu:Nat) (t:Term) (n l:Int):cD (fu+1) t n l=bif decide (l < 1) then -1 else bO (walk (pQ fu l) (fun s=>.inr s) t.args (aK (n - 1))) id:=by
 show (kY (cD fu) (fun _ _ _=>False) (fun _ _ _=>fun h=>h.elim) t n l).val=_
 simp only [kY,Sk.bK,Sk.cz,Sk.cY,Sk.bg]
 congr 1
 rw [jW t.args (fun s i=>(s,i)) (pQ fu l) (fun s=>.inr s) (fun s i hi=>?_) (fun s=>?_) (by simp) _]
 ·rfl
 ·simp only [Sk.ct,Sk.bK,Sk.cE,Sk.cV,Sk.bg,fD.wG,kk,kp,CE]
  rw [decide_eq_true (by omega),Bool.true_and]
  unfold pQ
  cases decide (s≥0) <;> rfl
 ·simp only [Sk.ct,Sk.bK,Sk.cE,Sk.cV,Sk.bg,fD.wG,kk,kp]
  rw [decide_eq_false (by omega),Bool.false_and,cond_false]
def qY (fu:Nat) (yy:Int) (x:Term) (s:Int):(Int ⊕ Int) ⊕ Int:=bif decide (aK (s+aJ fu x (aK (yy+1))) > 60) then .inl (.inr (aK (s+aJ fu x (aK (yy+1))))) else .inr (aK (s+aJ fu x (aK (yy+1))))
theorem RG (fu:Nat) (t:Term) (yy:Int):aJ (fu+1) t yy=bif decide (yy > 8) then 61 else bO (walk (qY fu yy) (fun s=>.inr s) t.args 1) id:=by
 show (dw (aJ fu) (fun _ _=>False) (fun _ _=>fun h=>h.elim) t yy).val=_
 simp only [dw,Sk.bK,Sk.cz,Sk.cY,Sk.bg]
 congr 1
 rw [jW t.args (fun s i=>(s,i)) (qY fu yy) (fun s=>.inr s) (fun s i hi=>?_) (fun s=>?_) (by simp) _]
 ·rfl
 ·simp only [Sk.ct,Sk.bK,Sk.cE,Sk.cV,Sk.bg,fD.wG,kk,kp,pd]
  rw [decide_eq_true (by omega),cond_true]
  unfold qY
  by_cases c:aK (s+aJ fu (t.args.getD i default) (aK (yy+1))) > 60
  ·simp only [c,decide_true,cond_true]
  ·simp only [c,decide_false,cond_false]
 ·simp only [Sk.ct,Sk.bK,Sk.cE,Sk.cV,Sk.bg,fD.wG,kk,kp]
  rw [decide_eq_false (by omega),cond_false]
theorem sc (t:Term):1≤t.nodes∧0≤Term.iu t.args:=by
 have h:∀ (d:Nat) (t:Term),t.depth≤d→0≤Term.iu t.args:=by
  intro d
  induction d with
  | zero=>intro t h; have:=t.gK; omega
  | succ d ih =>
   intro t h
   obtain ⟨op,n,args⟩:=t
   simp only [Term.depth] at h
   have h:Term.bT args≤d:=by omega
   show 0≤Term.iu args
   clear n op
   induction args with
   | nil=>simp [Term.iu]
   | cons x r ihr =>
    simp only [Term.bT] at h
    have h1:=ih x (by omega)
    have h2:=ihr (by omega)
    obtain ⟨op,n,args⟩:=x
    simp only [Term.iu,Term.nodes] at h1 ⊢
    omega
 have:=h t.depth t (Nat.le_refl _)
 obtain ⟨op,n,args⟩:=t
 simp only [Term.nodes] at this ⊢
 omega
theorem size_eq:∀ (fu:Nat) (t:Term) (n l:Int),t.depth≤fu→0≤n→n≤1000→0≤l→l≤1000 →
  (-1≤cD fu t n l∧cD fu t n l≤n)∧(0≤cD fu t n l↔t.nodes≤n∧(t.depth:Int)≤l)∧(0≤cD fu t n l→cD fu t n l=n - t.nodes)
 | 0,t,_,_,h,_,_,_,_=>absurd h (by have:=t.gK; omega)
 | fu+1,t,n,l,h,h1,h2,h3,h4=>by
  rw [ZO]
  obtain ⟨op,m,args⟩:=t
  simp only [Term.depth,Term.nodes] at h ⊢
  have hd:Term.bT args≤fu:=by omega
  by_cases hl:l < 1
  ·rw [decide_eq_true hl,cond_true]; omega
  rw [decide_eq_false hl,cond_false,aq (by omega) (by omega)]
  have hn0:0≤Term.iu args:=(sc ⟨op,m,args⟩).2
  have key:∀ (ts:List Term) (s:Int),Term.bT ts≤fu→-1≤s→s≤1000 →
    (-1≤bO (walk (pQ fu l) (fun s=>.inr s) ts s) id∧bO (walk (pQ fu l) (fun s=>.inr s) ts s) id≤s) ∧
    (0≤bO (walk (pQ fu l) (fun s=>.inr s) ts s) id↔0≤s∧Term.iu ts≤s∧(Term.bT ts:Int)≤l - 1) ∧
    (0≤bO (walk (pQ fu l) (fun s=>.inr s) ts s) id→bO (walk (pQ fu l) (fun s=>.inr s) ts s) id=s - Term.iu ts):=by
   intro ts
   induction ts with
   | nil =>
    intro s _ hs _
    simp only [walk,cX,Term.iu,Term.bT,id]
    omega
   | cons x r ih =>
    intro s hd hs hs2
    simp only [Term.bT] at hd
    by_cases h0:s≥0
    ·have hx:=size_eq fu x s (l - 1) (by omega) h0 hs2 (by omega) (by omega)
     have e:walk (pQ fu l) (fun s=>.inr s) (x :: r) s=walk (pQ fu l) (fun s=>Sum.inr s) r (cD fu x s (l - 1)):=by
      simp only [walk,pQ]
      rw [decide_eq_true h0,cond_true,aq (n:=l - 1) (by omega) (by omega)]
     rw [e]
     have hr:=ih (cD fu x s (l - 1)) (by omega) hx.1.1 (by omega)
     have hnr:0≤Term.iu r:=(sc ⟨op,m,r⟩).2
     have hxp:=(sc x).1
     generalize bO (walk (pQ fu l) (fun s=>.inr s) r (cD fu x s (l - 1))) id=R at hr ⊢
     generalize cD fu x s (l - 1)=X at hx hr ⊢
     simp only [Term.iu,Term.bT]
     have hmx:((max x.depth (Term.bT r):Nat):Int)≤l - 1↔(x.depth:Int)≤l - 1∧(Term.bT r:Int)≤l - 1:=by omega
     rw [hmx]
     by_cases hX:0≤X
     ·have:=hx.2.2 hX
      have:=hx.2.1.1 hX
      refine ⟨⟨hr.1.1,by omega⟩,⟨fun h=>?_,fun h=>?_⟩,fun h=>?_⟩
      ·have:=hr.2.1.1 h; omega
      ·exact hr.2.1.2 (by omega)
      ·have:=hr.2.2 h; omega
     ·have hX2:¬ (x.nodes≤s∧(x.depth:Int)≤l - 1):=fun h=>hX (hx.2.1.2 h)
      have hR:¬ 0≤R:=fun h=>by have:=hr.2.1.1 h; omega
      omega
    ·have e:walk (pQ fu l) (fun s=>.inr s) (x :: r) s=Sum.inr s:=by
      simp only [walk,pQ]
      rw [decide_eq_false h0,cond_false]
     rw [e,cX,id]
     omega
  have:=key args (n - 1) hd (by omega) (by omega)
  generalize bO (walk (pQ fu l) (fun s=>.inr s) args (n - 1)) id=R at this ⊢
  omega
theorem MG:∀ (fu:Nat) (t:Term) (yy:Int),t.depth≤fu→1≤yy→yy≤9→(aJ fu t yy≤60↔t.nodes≤60∧(t.depth:Int)+yy≤9)∧(aJ fu t yy≤60→aJ fu t yy=t.nodes)
 | 0,t,_,h,_,_=>absurd h (by have:=t.gK; omega)
 | fu+1,t,yy,h,h1,h2=>by
  rw [RG]
  obtain ⟨op,m,args⟩:=t
  simp only [Term.depth,Term.nodes] at h ⊢
  have hd:Term.bT args≤fu:=by omega
  by_cases hl:yy > 8
  ·rw [decide_eq_true hl,cond_true]; omega
  rw [decide_eq_false hl,cond_false]
  have key:∀ (ts:List Term) (s:Int),Term.bT ts≤fu→1≤s→s≤60 →
    s≤bO (walk (qY fu yy) (fun s=>.inr s) ts s) id ∧
    (bO (walk (qY fu yy) (fun s=>.inr s) ts s) id≤60↔s+Term.iu ts≤60∧(Term.bT ts:Int)+yy≤8) ∧
    (bO (walk (qY fu yy) (fun s=>.inr s) ts s) id≤60→bO (walk (qY fu yy) (fun s=>.inr s) ts s) id=s+Term.iu ts):=by
   intro ts
   induction ts with
   | nil =>
    intro s _ hs hs2
    simp only [walk,cX,Term.iu,Term.bT,id]
    omega
   | cons x r ih =>
    intro s hd hs hs2
    simp only [Term.bT] at hd
    have hx:=MG fu x (yy+1) (by omega) (by omega) (by omega)
    have hxb:=pg fu x (yy+1) (by omega) (by omega) (by omega)
    have hnr:0≤Term.iu r:=(sc ⟨op,m,r⟩).2
    have hxp:=(sc x).1
    have hmx:((max x.depth (Term.bT r):Nat):Int)+yy≤8↔(x.depth:Int)+yy≤8∧(Term.bT r:Int)+yy≤8:=by omega
    simp only [Term.iu,Term.bT]
    rw [hmx]
    have ew:aK (s+aJ fu x (aK (yy+1)))=s+aJ fu x (yy+1):=by
     rw [aq (n:=yy+1) (by omega) (by omega),aq (by omega) (by omega)]
    by_cases h0:s+aJ fu x (yy+1) > 60
    ·have e:walk (qY fu yy) (fun s=>.inr s) (x :: r) s=Sum.inr (s+aJ fu x (yy+1)):=by
      simp only [walk,qY,ew]
      rw [decide_eq_true h0,cond_true]
     rw [e,cX,id]
     refine ⟨by omega,⟨fun h=>by omega,fun h=>?_⟩,fun h=>by omega⟩
     have:=hx.1.2 (by omega)
     have:=hx.2 this
     omega
    ·have e:walk (qY fu yy) (fun s=>.inr s) (x :: r) s=walk (qY fu yy) (fun s=>Sum.inr s) r (s+aJ fu x (yy+1)):=by
      simp only [walk,qY,ew]
      rw [decide_eq_false h0,cond_false]
     rw [e]
     have hr:=ih (s+aJ fu x (yy+1)) (by omega) (by omega) (by omega)
     have e2:=hx.2 (by omega)
     have e3:=hx.1.1 (by omega)
     generalize bO (walk (qY fu yy) (fun s=>.inr s) r (s+aJ fu x (yy+1))) id=R at hr ⊢
     generalize aJ fu x (yy+1)=X at *
     refine ⟨by omega,⟨fun h=>?_,fun h=>hr.2.1.2 (by omega)⟩,fun h=>?_⟩
     ·have:=hr.2.1.1 h; omega
     ·have:=hr.2.2 h; omega
  have:=key args 1 hd (by omega) (by omega)
  generalize bO (walk (qY fu yy) (fun s=>.inr s) args 1) id=R at this ⊢
  omega
theorem MH:∀ l:List Term,(l.length:Int)≤Term.iu l∧∀ q,q < l.length→(l.getD q default).nodes≤Term.iu l
 | []=>⟨by simp [Term.iu],fun q h=>absurd h (by simp)⟩
 | x :: r=>by
  have h:=MH r
  have hx:=(sc x).1
  have hr:0≤Term.iu r:=(sc ⟨0,0,r⟩).2
  simp only [Term.iu,List.length_cons]
  refine ⟨by omega,fun q hq=>?_⟩
  cases q with
  | zero=>show x.nodes≤_; omega
  | succ q=>have:=h.2 q (by omega); show (r.getD q default).nodes≤_; omega
theorem YG:∀ (d:Nat) (t:Term),t.depth≤d→t.nodes≤60→vI t
 | 0,t,h,_=>absurd h (by have:=t.gK; omega)
 | d+1,t,h,hn=>by
  have hn2:Term.iu t.args+1≤60:=by obtain ⟨_,_,_⟩:=t; simpa only [Term.nodes] using hn
  have hl:=MH t.args
  exact .mk (by omega) fun q hq=>YG d _ (by have:=t.gU q hq; omega) (by have:=hl.2 q hq; omega)
def AI (t:Term):Sk (Bool) :=
 .r 1 ((AH t 100 20).c) fun x1 =>
 .fin (decide (x1≥0))
def ac7 t:=(AI t).val
theorem Xc (t:Term):(AI t).bq (fun _=>True):=by
 unfold AI
 try simp only [AH]
 exact mP
def H9 t:=kk tok mixed Tryz.func18 [av t.cells] (fun x=>bv x) true (AI t) (ac7 t) (u0 (Xc t))
def Dw (n:Int) (length:Int):Sk (Bool) :=
 .fin ((decide (n≥0))&&(decide (n < length)))
def abH n length:=(Dw n length).val
theorem Ia (n:Int) (length:Int):abH n length=((decide (n≥0))&&(decide (n < length))):=rfl
theorem ZP (n:Int) (length:Int):(Dw n length).bq (fun _=>True):=by
 unfold Dw
 exact mP
def qZ n length:=kk tok mixed Tryz.func87 [iv n,iv length] (fun x=>bv x) true (Dw n length) (abH n length) (u0 (ZP n length))
def xD (n:Int) (length:Int):Sk (Bool) :=
 .r 1 (.wh (n == (-1)) false ((qZ n length).c)) fun x1 =>
 .fin ((n == (-1))||x1)
def abI n length:=(xD n length).val
theorem US (n:Int) (length:Int):(xD n length).bq (fun _=>True):=by
 unfold xD
 try simp only [qZ,Ia]
 exact xV
def AJ n length:=kk tok mixed Tryz.func88 [iv n,iv length] (fun x=>bv x) true (xD n length) (abI n length) (u0 (US n length))
def uU (day:Int):Sk (Bool) :=
 .fin ((decide (day≥0))&&(decide (day≤100000)))
def jr day:=(uU day).val
theorem gC (day:Int):jr day=((decide (day≥0))&&(decide (day≤100000))):=rfl
theorem RH (day:Int):(uU day).bq (fun _=>True):=by
 unfold uU
 exact mP
def dn day:=kk tok mixed Tryz.func89 [iv day] (fun x=>bv x) true (uU day) (jr day) (u0 (RH day))
def uV (b:jX):Sk (Bool):=let az:=(b.aC.unit == 0);
 .br ((b.aC.kind == 0)||(b.aC.kind == 4))
 (.fin ((b.aC.n == 0)&&az))
 (.br ((b.aC.kind == 1)||(b.aC.kind == 2))
 (.fin (((decide (b.aC.n≥1))&&(decide (b.aC.n≤400)))&&(az||(b.aC.unit == 1))))
 (.fin ((((b.aC.kind == 3)&&(decide (b.aC.n≥b.day)))&&(decide (b.aC.n≤100000)))&&az)))
def ZQ b:=(uV b).val
theorem RI (b:jX):(uV b).bq (fun _=>True):=by
 unfold uV
 exact mP
def CF b:=kk tok mixed Tryz.func90 [av b.cells] (fun x=>bv x) true (uV b) (ZQ b) (u0 (RI b))
def lW (r:ah) (from_:Int) (cr:Int):Sk (Int × Int) :=
 .bt
 (.loop (default:Sum (Int × Int) (Unit)) (fun i2=>i2≤r.aR.length) (fun i2=>r.aR.length - i2) (0:Nat)
 (fun (i2:Nat)=>⟨[(8,iv (i2:Int))],[]⟩) fun i2=>let aV:=(r.aR.getD i2 default); let az:=(bM (i2:Int) r.aR.length);
 .lt 3 5 i2 r.aR.length
 (.r 4 (.aj (.p az) (.wh ((aV.from_) == from_) true (.p az))) fun _ =>
 .br (((aV.from_) == from_)&&((aV.cr) == cr))
 (.r 5 (.p az) fun _ =>
 .fin (.inl (.inl (aV.days,0))))
 (.nx 3 8 i2 (i2+1)))
 (.fin (.inl (.inr ()))))
 (fun (_:Unit)=>⟨[],[]⟩) fun _ =>
 .fin (0,4)
def g4 r from_ cr:=(lW r from_ cr).val
def yz (a b:Int) (x:dJ) (_:Unit):(Int × Int) ⊕ Unit:=bif (x.from_ == a)&&(x.cr == b) then .inl (x.days,0) else .inr ()
theorem I5 (r:ah) (a b:Int):g4 r a b=cQ r a b:=by
 have e1:g4 r a b=walk (yz a b) (fun _=>(0,4)) r.aR ():=by
  simp only [g4,lW,Sk.cz,Sk.cY,Sk.ct,Sk.bK,Sk.cE,Sk.cV,Sk.bg]
  refine (bD r.aR (fun s i=>i) (yz a b) id _ (fun s i hi=>?_) (fun s=>?_) (by simp) ()).trans rfl
  ·rw [decide_eq_true (by omega),cond_true]
   unfold yz
   cases (((r.aR.getD i default).from_ == a)&&((r.aR.getD i default).cr == b)) <;> rfl
  ·rw [decide_eq_false (by omega),cond_false]
 have e2:cQ r a b=walk (yz a b) (fun _=>(0,4)) r.aR ():=by
  simp only [cQ,lF,Sk.cz,Sk.cY,Sk.ct,Sk.bK,Sk.cE,Sk.cV,Sk.bg]
  refine (bD r.aR (fun s i=>i) (yz a b) id _ (fun s i hi=>?_) (fun s=>?_) (by simp) ()).trans rfl
  ·rw [decide_eq_true (by omega),cond_true]
   unfold yz
   cases (((r.aR.getD i default).from_ == a)&&((r.aR.getD i default).cr == b)) <;> rfl
  ·rw [decide_eq_false (by omega),cond_false]
 rw [e1,e2]
theorem uh (r:ah) (from_:Int) (cr:Int):(fun (x:Int × Int)=>x=cQ r from_ cr) (g4 r from_ cr):=(I5 r from_ cr)
theorem Ot (r:ah) (from_:Int) (cr:Int):(lW r from_ cr).bq (fun _=>True):=by
 unfold lW
 exact mH
def lx r from_ cr:=kk tok mixed Tryz.func91 [av r.cells,iv from_,iv cr] (fun x=>.fb [iv x.1,iv x.2]) true (lW r from_ cr) (g4 r from_ cr) (u0 (Ot r from_ cr)) (fun (x:Int × Int)=>x=cQ r from_ cr) (uh r from_ cr)
def ra (r:ah) (b:jX):Sk (Int):=let kV:=((r.aB.length:Nat):Int); let eG:=((decide (b.flags < 0))||(decide (b.flags > 7))); let cF:=((decide (b.sum < 1))||(decide (b.sum > 1099511627776))); let az:=((r.bu.length:Nat):Int);
 .r 1 ((jQ r).c) fun x1 =>
 .br (x1 != 0)
 (.fin x1)
 (.r 6 (.dep ((qZ b.EJ az).c) fun x2=>.dep (.wh (!x2) false ((qZ b.zY az).c)) fun x3=>.dep (.wh ((!x2)||(!x3)) false ((AJ b.fY az).c)) fun x4=>let aV:=(((!x2)||(!x3))||(!x4)); .dep (.wh aV false ((AJ b.need az).c)) fun x5=>.dep (.wh (aV||(!x5)) false ((qZ b.bj ((r.aY.length:Nat):Int)).c)) fun x6=>.dep (.wh ((aV||(!x5))||(!x6)) false ((qZ b.aL kV).c)) fun x7=>.wh (((aV||(!x5))||(!x6))||(!x7)) false ((qZ b.rD kV).c)) fun p12 =>
 .br (((((((!p12.1)||(!p12.2.1))||(!p12.2.2.1))||(!p12.2.2.2.1))||(!p12.2.2.2.2.1))||(!p12.2.2.2.2.2.1))||(!p12.2.2.2.2.2.2))
 (.fin 1)
 (.r 8 (.wh cF false ((dn b.day).c)) fun x9 =>
 .br (((cF||(!x9))||(decide (b.oz < 0)))||(decide (b.oz > 1000)))
 (.fin 3)
 (.br ((decide (b.parts < 1))||(decide (b.parts > 4)))
 (.fin 15)
 (.r 12 (.wh (eG||((b.fY == (-1))&&((dh .i64 b.flags 4) != 0))) false ((CF b).c)) fun Ju =>
 .br ((eG||((b.fY == (-1))&&((dh .i64 b.flags 4) != 0)))||(!Ju))
 (.fin 2)
 (.br (b.aC.kind != 4)
 (.fin 0)
 (.r 16 ((lx r b.aL b.rD).c) fun VX =>
 .fin VX.2))))))
def ZR r b:=(ra r b).val
theorem Ou (r:ah) (b:jX):(ra r b).dq (fun (x:Int)=>x=0→xa r b):=by
 refine Sk.bh _ ?_
 unfold ra
 simp (maxSteps:=2000000) only [Sk.cK,Sk.aD,reduceCtorEq,ON,kk,kp,dn,jQ,lx,CF,qZ,AJ,gC,Ia,forall_eq,ah.cx,ah.cj,ah.l6,ah.gV,maxLen]
 all_goals (repeat' first | assumption | (apply And.intro) | (intro h))
 all_goals first | trivial | assumption | omega | ((try simp only [LN] at *) <;> first | omega | (refine (aq ?_ ?_).trans ?_ <;> omega) | (simp (disch:=omega) only [aq] at *; omega) | (grind) | (simp_all; done) | (simp_all; omega))
theorem RJ (r:ah) (b:jX):(ra r b).bq (fun _=>True):=by
 refine Sk.aO _ ?_
 unfold ra
 simp (maxSteps:=2000000) only [Sk.gx,Sk.aD,reduceCtorEq,ON,kk,kp,dn,jQ,lx,CF,qZ,AJ,gC,Ia,forall_eq,ah.cx,ah.cj,ah.l6,ah.gV,maxLen]
def CG r b:=kp tok mixed Tryz.func43 [av r.cells,av b.cells] (fun x=>iv x) true (ZR r b) (u0 (RJ r b)) (Ou r b)
def Dx (f:aw) (i:Int) (part:Int):Sk (Bool) :=
 .r 1 (.wh (i == 0) false (.p (bM i f.af.length))) fun _ =>
 .fin ((i == 0)||(((f.af.getD i.toNat default).part) == part))
def ae1 f i part:=(Dx f i part).val
theorem ZS (f:aw) (i:Int) (part:Int) (hs:i=0∨(0≤i∧i < (f.af.length:Int))):(Dx f i part).bq (fun _=>True):=by
 unfold Dx
 exact mH
def zx f i part:=kk tok mixed Tryz.func136 [av f.cells,iv i,iv part] (fun x=>bv x) true (Dx f i part) (ae1 f i part) (ZS f i part)
def nU (f:aw) (i:Int):Sk (Bool):=let az:=(f.af.getD i.toNat default);
 .r 1 (.p (bM i f.af.length)) fun _ =>
 .r 2 (.dep ((ar (az.for_) 0 (aK (i - 1))).c) fun x1=>.aj (.wh x1 true (.p (bM i f.af.length))) (.wh x1 true ((zx f (az.for_) (az.part)).c))) fun p3 =>
 .fin (p3.1&&p3.2)
def P9 f i:=(nU f i).val
theorem Ov (f:aw) (i:Int) (hP:(0≤i∧i < (f.af.length:Int))∧f.af.length≤40):(nU f i).dq (fun (x:Bool)=>x=true→0≤(f.af.getD i.toNat default).for_∧(f.af.getD i.toNat default).for_ < i):=by
 unfold nU
 try simp only [ar,zx,aW]
 exact Yp
theorem MI (f:aw) (i:Int):(fun (x:Bool)=>((0≤i∧i < (f.af.length:Int))∧f.af.length≤40)→(x=true→0≤(f.af.getD i.toNat default).for_∧(f.af.getD i.toNat default).for_ < i)) (P9 f i):=fun hP=>have h:=Sk.dc _ (Ov f i hP); h
theorem RK (f:aw) (i:Int) (hs:0≤i∧i < (f.af.length:Int)) (hn:f.af.length≤40):(nU f i).bq (fun _=>True):=by
 unfold nU
 try simp only [ar,zx,aW]
 exact xV
def CH f i:=kk tok mixed Tryz.func135 [av f.cells,iv i] (fun x=>bv x) true (nU f i) (P9 f i) (u2 (RK f i)) (fun (x:Bool)=>((0≤i∧i < (f.af.length:Int))∧f.af.length≤40)→(x=true→0≤(f.af.getD i.toNat default).for_∧(f.af.getD i.toNat default).for_ < i)) (MI f i)
def qe (r:ah) (f:aw) (i:Int):Sk (Bool):=let NR:=((CH f i).c); let az:=(f.af.getD i.toNat default); let q9_:=((az.ja) == f.aM.zY); let HA:=((i == 0)||((az.cr) != (-1))); let B2:=((az.for_) == (-1)); let rz:=(bM (az.for_) f.af.length); let kV:=((HA||((az.sum) != 0))||((az.flags) != 0)); let eG:=((decide (i > 0))&&B2); let aV:=((f.af.getD ((az.for_).toNat) default).kind);
 .r 1 (.p (bM i f.af.length)) fun _ =>
 .r 2 ((ar (az.sum) 1 1099511627776).c) fun x1=>let cF:=(((HA||(!x1))||((az.flags) != 0))||q9_);
 .br ((az.kind) == 0)
 (.fin ((((((((i == 0)&&((az.ja) == f.aM.EJ))&&B2)&&((az.cr) == (-1)))&&((az.sum) == 0))&&(((az.flags) == 0)||((az.flags) == 1)))&&((az.part) == 0))&&((az.aL) == f.aM.aL)))
 (.br ((az.kind) == 1)
 (.fin ((((((decide (i > 0))&&q9_)&&B2)&&((az.cr) == (-1)))&&x1)&&((az.flags) == 0)))
 (.br ((az.kind) == 2)
 (.r 9 (.aj (.p ((2:Int)≠0)) (.p ((2:Int)≠0))) fun _ =>
 .r 10 (.aj (.p ((4:Int)≠0)) (.p ((2:Int)≠0))) fun _ =>
 .r 11 (.dep (.wh eG true ((ar (az.cr) (-1) (aK (((r.bu.length:Nat):Int) - 1))).c)) fun x2=>.wh ((eG&&x2)&&((az.sum) == 0)) true ((ar (az.flags) 0 7).c)) fun p4 =>
 .fin ((((eG&&p4.1)&&((az.sum) == 0))&&p4.2)&&(!((((aK ((az.flags).tdiv 2)).tmod 2) == 1)&&(((aK ((az.flags).tdiv 4)).tmod 2) == 1)))))
 (.br ((az.kind) == 3)
 (.r 13 (.wh kV false NR) fun x5 =>
 .br (kV||(!x5))
 (.fin false)
 (.r 15 (.p rz) fun _ =>
 .fin (aV != 3)))
 (.br ((az.kind) == 4)
 (.r 17 (.wh cF false NR) fun x6 =>
 .br (cF||(!x6))
 (.fin false)
 (.r 19 (.aj (.p rz) (.wh (aV == 0) false (.p rz))) fun _ =>
 .fin ((aV == 0)||(aV == 2))))
 (.fin false)))))
def UT r f i:=(qe r f i).val
theorem RL (r:ah) (f:aw) (i:Int) (hP:(0≤i∧i < (f.af.length:Int))∧f.af.length≤40):(qe r f i).dq (fun (x:Bool)=>x=true→Uc f i.toNat):=by
 unfold qe
 try simp only [ar,CH,aW]
 exact Yp
theorem Ow (r:ah) (f:aw) (i:Int):(fun (x:Bool)=>((0≤i∧i < (f.af.length:Int))∧f.af.length≤40)→(x=true→Uc f i.toNat)) (UT r f i):=fun hP=>have h:=Sk.dc _ (RL r f i hP); h
theorem UU (r:ah) (f:aw) (i:Int) (hs:0≤i∧i < (f.af.length:Int)) (hn:f.af.length≤40):(qe r f i).bq (fun _=>True):=by
 unfold qe
 try simp only [ar,CH,aW]
 exact xV
def E5 r f i:=kk tok mixed Tryz.func92 [av r.cells,av f.cells,iv i] (fun x=>bv x) true (qe r f i) (UT r f i) (u2 (UU r f i)) (fun (x:Bool)=>((0≤i∧i < (f.af.length:Int))∧f.af.length≤40)→(x=true→Uc f i.toNat)) (Ow r f i)
def nV (r:ah) (f:aw) (i:Int):Sk (Int):=let az:=(f.af.getD i.toNat default);
 .r 1 (.p (bM i f.af.length)) fun _ =>
 .r 2 ((ar (az.part) 0 (aK (f.aM.parts - 1))).c) fun x1 =>
 .br (!x1)
 (.fin 15)
 (.r 4 (.dep ((ar (az.ja) 0 (aK (((r.bu.length:Nat):Int) - 1))).c) fun x2=>.wh (!x2) false ((ar (az.aL) 0 (aK (((r.aB.length:Nat):Int) - 1))).c)) fun p8 =>
 .br ((!p8.1)||(!p8.2))
 (.fin 1)
 (.br (((i == 0)&&((az.day) != f.aM.day))||(decide ((az.day) > 100000)))
 (.fin 13)
 (.bind false (fun b4=>i > 0→(f.af.getD (aK (i - 1)).toNat default).day≤az.day)
 (.br (decide (i > 0))
 (.r 9 (.p (bM (aK (i - 1)) f.af.length)) fun _ =>
 .br (decide ((az.day) < ((f.af.getD ((aK (i - 1)).toNat) default).day)))
 (.fin (.inl 13))
 (.fin (.inr ())))
 (.fin (.inr ())))
 (fun (_:Unit)=>⟨[],[]⟩) fun _ =>
 .r 11 ((E5 r f i).c) fun x5 =>
 .br (!x5)
 (.fin 14)
 (.bt
 (.loop (default:Sum (Int) (Unit)) (fun i7=>0≤i7∧i7≤i) (fun i7=>(i - i7).toNat) (0:Int)
 (fun (i7:Int)=>⟨[(8,iv i7)],[]⟩) fun i7=>let aV:=(f.af.getD i7.toNat default);
 .br ((decide (i7 < i))&&((az.kind) == 1))
 (.r 16 (.aj (.p (bM i7 f.af.length)) (.wh ((aV.kind) == 1) true (.p (bM i7 f.af.length)))) fun _ =>
 .br (((aV.kind) == 1)&&((aV.part) == (az.part)))
 (.fin (.inl (.inl 5)))
 (.fin (.inr (aK (i7+1)))))
 (.fin (.inl (.inr ()))))
 (fun (_:Unit)=>⟨[],[]⟩) fun _ =>
 .fin 0))))
def Qa r f i:=(nV r f i).val
theorem Ox (r:ah) (f:aw) (i:Int) (hP:(0≤i∧i < (f.af.length:Int))∧f.af.length≤40∧r.bu.length≤200∧xa r f.aM):(nV r f i).dq (fun (x:Int)=>x=0→yR r f i.toNat):=by
 refine Sk.bh _ ?_
 unfold nV
 simp only [Sk.cK,Sk.aD,reduceCtorEq,ON,kk,kp,ar,E5,aW,forall_eq,maxLen]
 intro _
 obtain ⟨hi,hn,hr,hB⟩:=hP
 have hB2:=hB.2.2.2.1
 refine ⟨fun _ h=>absurd h (by decide),fun h1=>⟨fun _ h=>absurd h (by decide),fun h2=>⟨fun _ h=>absurd h (by decide),fun h3=>⟨⟨fun h4 _=>⟨fun _ h=>absurd h (by decide),fun h5 _=>by simpa using h5⟩,fun h4 h=>?_⟩,fun _ _ h6 hF=>⟨fun _ h=>absurd h (by decide),fun h7=>⟨⟨⟨by omega,by omega⟩,fun k hk hc _=>⟨fun _ h=>absurd h (by decide),fun _=>?_⟩⟩,fun _=>?_⟩⟩⟩⟩⟩⟩
 ·simp only [LN] at h4; omega
 ·simp only [LN] at hc
  rw [aq (by omega) (by omega)]
  omega
 ·have hF:=hF ⟨hi,hn⟩ (by simpa using h7)
  simp only [LN] at h1 h2 h3
  rw [aq (n:=f.aM.parts - 1) (by omega) (by omega)] at h1
  rw [aq (n:=(r.bu.length:Int) - 1) (by omega) (by omega)] at h2
  refine ⟨by omega,fun h0=>?_,by omega,fun h0=>?_,by omega,hF⟩
  ·have:=h6 (by omega)
   rw [aq (by omega) (by omega),show (i - 1).toNat=i.toNat - 1 by omega] at this
   exact this
  ·rcases h3.1 with h | h
   ·omega
   ·exact h
theorem MJ (r:ah) (f:aw) (i:Int):(fun (x:Int)=>((0≤i∧i < (f.af.length:Int))∧f.af.length≤40∧r.bu.length≤200∧xa r f.aM)→(x=0→yR r f i.toNat)) (Qa r f i):=fun hP=>have h:=Sk.dc _ (Ox r f i hP); h
theorem RM (r:ah) (f:aw) (i:Int) (hs:0≤i∧i < (f.af.length:Int)) (hn:f.af.length≤40):(nV r f i).bq (fun _=>True):=by
 unfold nV
 try simp only [ar,E5,aW]
 exact xV
def CI r f i:=kk tok mixed Tryz.func44 [av r.cells,av f.cells,iv i] (fun x=>iv x) true (nV r f i) (Qa r f i) (u2 (RM r f i)) (fun (x:Int)=>((0≤i∧i < (f.af.length:Int))∧f.af.length≤40∧r.bu.length≤200∧xa r f.aM)→(x=0→yR r f i.toNat)) (MJ r f i)
def nW (r:ah) (f:aw) (a:cT):Sk (Bool):=let cF:=(f.af.getD a.at_.toNat default); let aV:=(aK (((r.bu.length:Nat):Int) - 1));
 .r 1 ((ar a.ja 0 aV).c) fun x1 =>
 .br (!x1)
 (.fin false)
 (.r 3 ((ar a.cr 0 aV).c) fun x2=>let az:=(x2&&(a.at_ == (-1)));
 .r 4 ((ar a.sum 0 1099511627776).c) fun x3 =>
 .r 5 ((ar a.at_ 0 (aK (((f.af.length:Nat):Int) - 1))).c) fun x4 =>
 .bind false (fun b5=>b5=true→0≤a.at_∧a.at_ < (f.af.length:Int))
 (.br x4
 (.r 7 ((zx f a.at_ a.part).c) fun x6 =>
 .fin (.inr x6))
 (.fin (.inr x4)))
 (fun (b5:Bool)=>⟨[(9,bv b5)],[]⟩) fun b5 =>
 .bind false (fun b7=>b7=true→(0≤a.at_∧a.at_ < (f.af.length:Int))∧cF.ja=a.ja)
 (.br b5
 (.r 10 (.p (bM a.at_ f.af.length)) fun _ =>
 .fin (.inr ((cF.ja) == a.ja)))
 (.fin (.inr false)))
 (fun (b7:Bool)=>⟨[(10,bv b7)],[]⟩) fun b7 =>
 .bind false (fun _=>True)
 (.br (a.kind == 0)
 (.fin (.inr (a.kind == 0)))
 (.br (a.kind == 1)
 (.fin (.inr (a.kind == 1)))
 (.fin (.inr (a.kind == 2)))))
 (fun (b8:Bool)=>⟨[(56,bv b8)],[]⟩) fun b8 =>
 .br b8
 (.fin ((az&&(a.sum == 0))&&(a.form == 0)))
 (.bind false (fun _=>True)
 (.br (a.kind == 3)
 (.fin (.inr (a.kind == 3)))
 (.fin (.inr (a.kind == 5))))
 (fun (b9:Bool)=>⟨[(76,bv b9)],[]⟩) fun b9 =>
 .br b9
 (.fin ((az&&x3)&&(a.form == 0)))
 (.br (a.kind == 4)
 (.fin ((az&&x3)&&((a.form == 0)||(a.form == 1))))
 (.br (a.kind == 6)
 (.fin ((((x2&&b7)&&x3)&&(decide (a.sum > 0)))&&(a.form == 0)))
 (.br (a.kind == 9)
 (.fin ((((a.cr == (-1))&&b7)&&(a.sum == 0))&&(a.form == 0)))
 (.bind false (fun _=>True)
 (.br (a.kind == 7)
 (.fin (.inr (a.kind == 7)))
 (.fin (.inr (a.kind == 8))))
 (fun (b10:Bool)=>⟨[(151,bv b10)],[]⟩) fun b10 =>
 .br b10
 (.fin ((((a.cr == (-1))&&b5)&&(a.sum == 0))&&(a.form == 0)))
 (.fin false)))))))
def Qb r f a:=(nW r f a).val
theorem Oy (r:ah) (f:aw) (a:cT) (hP:f.af.length≤40):(nW r f a).dq (fun (x:Bool)=>x=true→wL a.sum∧a.at_ < (f.af.length:Int)∧(a.kind=6→0≤a.at_∧(f.af.getD a.at_.toNat default).ja=a.ja)):=by
 unfold nW
 try simp only [ar,zx,aW]
 exact Yp
theorem MK (r:ah) (f:aw) (a:cT):(fun (x:Bool)=>(f.af.length≤40)→(x=true→wL a.sum∧a.at_ < (f.af.length:Int)∧(a.kind=6→0≤a.at_∧(f.af.getD a.at_.toNat default).ja=a.ja))) (Qb r f a):=fun hP=>have h:=Sk.dc _ (Oy r f a hP); h
theorem RN (r:ah) (f:aw) (a:cT) (hn:f.af.length≤40):(nW r f a).bq (fun _=>True):=by
 unfold nW
 try simp only [ar,zx,aW]
 exact xV
def CJ r f a:=kk tok mixed Tryz.func93 [av r.cells,av f.cells,av a.cells] (fun x=>bv x) true (nW r f a) (Qb r f a) (RN r f a) (fun (x:Bool)=>(f.af.length≤40)→(x=true→wL a.sum∧a.at_ < (f.af.length:Int)∧(a.kind=6→0≤a.at_∧(f.af.getD a.at_.toNat default).ja=a.ja))) (MK r f a)
def qf (r:ah) (f:aw) (i:Int):Sk (Int):=let az:=(f.aU.getD i.toNat default);
 .r 1 (.p (bM i f.aU.length)) fun _ =>
 .r 2 ((ar (az.part) 0 (aK (f.aM.parts - 1))).c) fun x1 =>
 .br (!x1)
 (.fin 15)
 (.r 4 (.dep ((ar (az.aL) 0 (aK (((r.aB.length:Nat):Int) - 1))).c) fun x2=>.wh (!x2) false ((ar (az.kind) 0 9).c)) fun p6 =>
 .br ((!p6.1)||(!p6.2))
 (.fin 1)
 (.r 6 ((CJ r f az).c) fun x4 =>
 .br (!x4)
 (.fin 14)
 (.br ((decide ((az.day) < f.aM.day))||(decide ((az.day) > 100000)))
 (.fin 13)
 (.bind false (fun b5=>0≤az.at_→(f.af.getD az.at_.toNat default).day≤az.day)
 (.br (decide ((az.at_)≥0))
 (.r 11 (.p (bM (az.at_) f.af.length)) fun _ =>
 .br (decide ((az.day) < ((f.af.getD ((az.at_).toNat) default).day)))
 (.fin (.inl 13))
 (.fin (.inr ())))
 (.fin (.inr ())))
 (fun (_:Unit)=>⟨[],[]⟩) fun _ =>
 .br (decide (i > 0))
 (.r 14 (.p (bM (aK (i - 1)) f.aU.length)) fun _ =>
 .br (decide ((az.day) < ((f.aU.getD ((aK (i - 1)).toNat) default).day)))
 (.fin 13)
 (.fin 0))
 (.fin 0)))))
def UW r f i:=(qf r f i).val
theorem RO (r:ah) (f:aw) (i:Int) (hP:(0≤i∧i < (f.aU.length:Int))∧f.af.length≤40∧f.aU.length≤100):(qf r f i).dq (fun (x:Int)=>x=0→B0 f i.toNat):=by
 refine Sk.bh _ ?_
 unfold qf
 simp only [Sk.cK,Sk.aD,reduceCtorEq,ON,kk,kp,ar,CJ,aW,forall_eq,maxLen]
 intro _
 refine ⟨fun _ h=>absurd h (by decide),fun h1=>⟨fun _ h=>absurd h (by decide),fun h2 hA=>⟨fun _ h=>absurd h (by decide),fun h3=>⟨fun _ h=>absurd h (by decide),fun h4=>⟨⟨fun _ _=>⟨fun _ h=>absurd h (by decide),fun hd _=>by simp only [LN] at hd; exact hd⟩,fun h0 h=>by simp only [LN] at h0; omega⟩,fun _ _ JS=>⟨fun h5 _=>⟨fun _ h=>absurd h (by decide),fun h6=>?_⟩,fun h5=>?_⟩⟩⟩⟩⟩⟩
 all_goals have hA:=hA hP.2.1 (by simpa using h3)
 all_goals simp only [LN] at h4 h5
 ·simp only [LN] at h6
  rw [aq (by omega) (by omega),show (i - 1).toNat=i.toNat - 1 by omega] at h6
  exact ⟨hA.1,by omega,fun _=>h6,fun hk=>⟨⟨(hA.2.2 hk).1,hA.2.1⟩,JS (hA.2.2 hk).1,(hA.2.2 hk).2⟩⟩
 ·exact ⟨hA.1,by omega,fun h=>by omega,fun hk=>⟨⟨(hA.2.2 hk).1,hA.2.1⟩,JS (hA.2.2 hk).1,(hA.2.2 hk).2⟩⟩
theorem Oz (r:ah) (f:aw) (i:Int):(fun (x:Int)=>((0≤i∧i < (f.aU.length:Int))∧f.af.length≤40∧f.aU.length≤100)→(x=0→B0 f i.toNat)) (UW r f i):=fun hP=>have h:=Sk.dc _ (RO r f i hP); h
theorem UX (r:ah) (f:aw) (i:Int) (hs:0≤i∧i < (f.aU.length:Int)) (hn:f.af.length≤40) (ha:f.aU.length≤100):(qf r f i).bq (fun _=>True):=by
 unfold qf
 try simp only [ar,CJ,aW]
 exact xV
def E6 r f i:=kk tok mixed Tryz.func46 [av r.cells,av f.cells,iv i] (fun x=>iv x) true (qf r f i) (UW r f i) (u3 (UX r f i)) (fun (x:Int)=>((0≤i∧i < (f.aU.length:Int))∧f.af.length≤40∧f.aU.length≤100)→(x=0→B0 f i.toNat)) (Oz r f i)
def uW (f:aw) (i:Int):Sk (Int):=let aV:=(f.facts.getD ((aK (i - 1)).toNat) default); let az:=(f.facts.getD i.toNat default);
 .r 1 (.p (bM i f.facts.length)) fun _ =>
 .r 2 (.dep ((ar (az.kind) 0 4).c) fun x1=>.dep (.wh (!x1) false ((ar (az.at_) 0 (aK (((f.af.length:Nat):Int) - 1))).c)) fun x2=>.wh ((!x1)||(!x2)) false ((ar (az.n) 0 1).c)) fun p4 =>
 .br (((!p4.1)||(!p4.2.1))||(!p4.2.2))
 (.fin 1)
 (.br (decide (i > 0))
 (.r 5 (.p (bM (aK (i - 1)) f.facts.length)) fun _ =>
 .br ((decide ((aV.at_) > (az.at_)))||(((aV.at_) == (az.at_))&&(decide ((aV.kind)≥(az.kind)))))
 (.fin 5)
 (.fin 0))
 (.fin 0))
def ZT f i:=(uW f i).val
theorem RP (f:aw) (i:Int) (hs:0≤i∧i < (f.facts.length:Int)) (ha:f.facts.length≤200):(uW f i).bq (fun _=>True):=by
 unfold uW
 try simp only [ar,aW]
 exact xV
def CK f i:=kk tok mixed Tryz.func47 [av f.cells,iv i] (fun x=>iv x) true (uW f i) (ZT f i) (u2 (RP f i))
def nX (r:ah) (f:aw):Sk (Int):=let kV:=((f.aU.length:Nat):Int); let eG:=((f.facts.length:Nat):Int); let cF:=((f.aN.length:Nat):Int); let aV:=((f.af.length:Nat):Int);
 .br ((((decide (aV > 40))||(decide (cF > 4)))||(decide (kV > 100)))||(decide (eG > 200)))
 (.fin 6)
 (.r 3 ((CG r f.aM).c) fun x1 =>
 .bind false (fun b2=>b2=0→xa r f.aM∧f.af.length≠0)
 (.br ((x1 == 0)&&(aV == 0))
 (.fin (.inr 14))
 (.fin (.inr x1)))
 (fun (b2:Int)=>⟨[(5,iv b2)],[]⟩) fun b2 =>
 .bind true (fun b3=>b3=0→xa r f.aM∧f.af.length≠0∧(r.bu.length≤200→(∀ q,q < f.af.length→yR r f q)))
 (.loop (default:Sum (Int) (Int)) (fun i4=>i4.2≤f.af.length∧(i4.1=0→xa r f.aM∧f.af.length≠0∧(r.bu.length≤200→(∀ q,q < i4.2→yR r f q)))) (fun i4=>f.af.length - i4.2) ((b2,0):Int × Nat)
 (fun (i4:Int × Nat)=>⟨[(5,iv i4.1),(6,iv ((i4.2:Nat):Int))],[]⟩) fun i4 =>
 .Eb 3 15 f.af.length <|
 .br ((decide (((i4.2:Nat):Int) < aV))&&(i4.1 == 0))
 (.r 9 ((CI r f ((i4.2:Nat):Int)).c) fun x5 =>
 .nx 8 6 i4.2 (x5,i4.2+1))
 (.fin (.inl (.inr i4.1))))
 (fun (b3:Int)=>⟨[(5,iv b3)],[]⟩) fun b3 =>
 .bind true (fun b6=>b6=0→xa r f.aM∧f.af.length≠0∧(r.bu.length≤200→(∀ q,q < f.af.length→yR r f q))∧(∀ q,q < f.aN.length→wL (f.aN.getD q default).sum))
 (.loop (default:Sum (Int) (Int)) (fun i7=>i7.2≤f.aN.length∧(i7.1=0→xa r f.aM∧f.af.length≠0∧(r.bu.length≤200→(∀ q,q < f.af.length→yR r f q))∧(∀ q,q < i7.2→wL (f.aN.getD q default).sum))) (fun i7=>f.aN.length - i7.2) ((b3,0):Int × Nat)
 (fun (i7:Int × Nat)=>⟨[(5,iv i7.1),(7,iv ((i7.2:Nat):Int))],[]⟩) fun i7=>let rz:=(f.aN.getD i7.2 default); let az:=((i7.2:Nat):Int);
 .Eb 3 16 f.aN.length <|
 .br ((decide (az < cF))&&(i7.1 == 0))
 (.bind false (fun _=>True)
 (.br (decide (az > 0))
 (.r 15 (.p (bM (aK (az - 1)) f.aN.length)) fun _ =>
 .fin (.inr (aK (((f.aN.getD ((aK (az - 1)).toNat) default).at_)+1))))
 (.fin (.inr 1)))
 (fun (b8:Int)=>⟨[(8,iv b8)],[]⟩) fun b8 =>
 .r 16 (.aj (.p (bM az f.aN.length)) ((ar (rz.at_) b8 aV).c)) fun x9 =>
 .br (!x9)
 (.nx 12 7 i7.2 (1,i7.2+1))
 (.r 18 (.aj (.p (bM az f.aN.length)) ((ar (rz.sum) 1 1099511627776).c)) fun Ju =>
 .br (!Ju)
 (.nx 12 7 i7.2 (3,i7.2+1))
 (.nx 12 7 i7.2 (i7.1,i7.2+1))))
 (.fin (.inl (.inr i7.1))))
 (fun (b6:Int)=>⟨[(5,iv b6)],[]⟩) fun b6 =>
 .bind true (fun b11=>b11=0→xa r f.aM∧f.af.length≠0∧(r.bu.length≤200→(∀ q,q < f.af.length→yR r f q))∧(∀ q,q < f.aN.length→wL (f.aN.getD q default).sum)∧(∀ q,q < f.aU.length→B0 f q))
 (.loop (default:Sum (Int) (Int)) (fun i12=>i12.2≤f.aU.length∧(i12.1=0→xa r f.aM∧f.af.length≠0∧(r.bu.length≤200→(∀ q,q < f.af.length→yR r f q))∧(∀ q,q < f.aN.length→wL (f.aN.getD q default).sum)∧(∀ q,q < i12.2→B0 f q))) (fun i12=>f.aU.length - i12.2) ((b6,0):Int × Nat)
 (fun (i12:Int × Nat)=>⟨[(5,iv i12.1),(9,iv ((i12.2:Nat):Int))],[]⟩) fun i12 =>
 .Eb 3 17 f.aU.length <|
 .br ((decide (((i12.2:Nat):Int) < kV))&&(i12.1 == 0))
 (.r 23 ((E6 r f ((i12.2:Nat):Int)).c) fun Gv =>
 .nx 22 9 i12.2 (Gv,i12.2+1))
 (.fin (.inl (.inr i12.1))))
 (fun (b11:Int)=>⟨[(5,iv b11)],[]⟩) fun b11 =>
 .bind true (fun N9=>N9=0→xa r f.aM∧f.af.length≠0∧(r.bu.length≤200→(∀ q,q < f.af.length→yR r f q))∧(∀ q,q < f.aN.length→wL (f.aN.getD q default).sum)∧(∀ q,q < f.aU.length→B0 f q))
 (.loop (default:Sum (Int) (Int)) (fun i15=>i15.2≤f.facts.length∧(i15.1=0→xa r f.aM∧f.af.length≠0∧(r.bu.length≤200→(∀ q,q < f.af.length→yR r f q))∧(∀ q,q < f.aN.length→wL (f.aN.getD q default).sum)∧(∀ q,q < f.aU.length→B0 f q))) (fun i15=>f.facts.length - i15.2) ((b11,0):Int × Nat)
 (fun (i15:Int × Nat)=>⟨[(5,iv i15.1),(10,iv ((i15.2:Nat):Int))],[]⟩) fun i15 =>
 .Eb 3 18 f.facts.length <|
 .br ((decide (((i15.2:Nat):Int) < eG))&&(i15.1 == 0))
 (.r 27 ((CK f ((i15.2:Nat):Int)).c) fun UG =>
 .nx 26 10 i15.2 (UG,i15.2+1))
 (.fin (.inl (.inr i15.1))))
 (fun (N9:Int)=>⟨[(5,iv N9)],[]⟩) fun N9 =>
 .fin N9)
def Qc r f:=(nX r f).val
theorem OA (r:ah) (f:aw) (hP:r.bu.length≤200):(nX r f).dq (fun (x:Int)=>x=0→dK r f):=by
  refine Sk.bh _ ?_
  unfold nX
  simp only [Sk.cK,Sk.aD,reduceCtorEq,ON,kk,kp,ar,CG,E6,CK,CI,aW,forall_eq,maxLen]
  have ext:∀ {P:Nat→Prop} {i:Nat},(∀ q,q < i→P q)→P i→∀ q,q < i+1→P q:=fun h h2 q hq=>(Nat.lt_succ_iff_lt_or_eq.1 hq).elim (h q) (fun e=>e ▸ h2)
  refine ⟨fun _ h=>absurd h (by decide),fun hb hB=>?_⟩
  simp only [LN] at hb
  refine ⟨⟨fun _ h=>absurd h (by decide),fun h0 h=>⟨hB h,fun e=>?_⟩⟩,fun b1 _ Hb=>⟨⟨⟨Nat.zero_le _,fun h=>⟨(Hb h).1,(Hb h).2,fun _ q hq=>absurd hq (by omega)⟩⟩,fun i hi=>⟨fun hc hs _=>?_,fun hc h=>?_⟩⟩,fun b2 Bb=>⟨⟨⟨Nat.zero_le _,fun h=>⟨(Bb h).1,(Bb h).2.1,(Bb h).2.2,fun q hq=>absurd hq (by omega)⟩⟩,fun i hi=>⟨fun hc b _=>⟨fun _ _=>?_,fun _=>⟨fun _ _=>?_,fun hs _=>?_⟩⟩,fun hc h=>?_⟩⟩,fun b3 Jn=>⟨⟨⟨Nat.zero_le _,fun h=>⟨(Jn h).1,(Jn h).2.1,(Jn h).2.2.1,(Jn h).2.2.2,fun q hq=>absurd hq (by omega)⟩⟩,fun i hi=>⟨fun hc hs _=>?_,fun hc h=>?_⟩⟩,fun b4 hb4=>⟨⟨⟨Nat.zero_le _,hb4⟩,fun i hi=>⟨fun hc _=>?_,fun _ h=>hi.2 h⟩⟩,fun b5 hb5 h=>?_⟩⟩⟩⟩⟩
  · simp [e,h] at h0
  · simp only [LN] at hc
    obtain ⟨a1,a2,a3⟩:=hi.2 hc.2
    exact ⟨⟨by omega,fun h=>⟨a1,a2,fun hr=>ext (a3 hr) (hs ⟨⟨by omega,by omega⟩,by omega,hr,a1⟩ h)⟩⟩,by omega⟩
  · simp only [LN] at hc
    have e:i.2=f.af.length:=by omega
    exact e ▸ hi.2 h
  · simp only [LN] at hc
    exact ⟨⟨by omega,fun h=>absurd h (by decide)⟩,by omega⟩
  · simp only [LN] at hc
    exact ⟨⟨by omega,fun h=>absurd h (by decide)⟩,by omega⟩
  · simp only [LN] at hc hs
    obtain ⟨a1,a2,a3,a4⟩:=hi.2 hc.2
    exact ⟨⟨by omega,fun h=>⟨a1,a2,a3,ext a4 ⟨by omega,by omega⟩⟩⟩,by omega⟩
  · simp only [LN] at hc
    have e:i.2=f.aN.length:=by omega
    exact e ▸ hi.2 h
  · simp only [LN] at hc
    obtain ⟨a1,a2,a3,a4,a5⟩:=hi.2 hc.2
    exact ⟨⟨by omega,fun h=>⟨a1,a2,a3,a4,ext a5 (hs ⟨⟨by omega,by omega⟩,by omega,by omega⟩ h)⟩⟩,by omega⟩
  · simp only [LN] at hc
    have e:i.2=f.aU.length:=by omega
    exact e ▸ hi.2 h
  · simp only [LN] at hc
    exact ⟨⟨by omega,fun _=>hi.2 hc.2⟩,by omega⟩
  · obtain ⟨a1,a2,a3,a4,a5⟩:=hb5 h
    exact ⟨a1,⟨by omega,a2,by omega,by omega,by omega⟩,a3 hP,a4,a5⟩

theorem ML (r:ah) (f:aw):(fun (x:Int)=>(r.bu.length≤200)→(x=0→dK r f)) (Qc r f):=fun hP=>have h:=Sk.dc _ (OA r f hP); h
theorem RQ (r:ah) (f:aw):(nX r f).bq (fun _=>True):=by
  refine Sk.aO _ ?_
  unfold nX
  simp only [Sk.gx,Sk.aD,reduceCtorEq,ON,kk,kp,ar,CG,E6,CK,CI,aW,forall_eq,maxLen]
  have ext:∀ {P:Nat→Prop} {i:Nat},(∀ q,q < i→P q)→P i→∀ q,q < i+1→P q:=fun h h2 q hq=>(Nat.lt_succ_iff_lt_or_eq.1 hq).elim (h q) (fun e=>e ▸ h2)
  have w1:∀ i n:Nat,i < n→n≤200→aK ((i:Int)+1)=((i+1:Nat):Int):=fun i n h h2=>(aq (by omega) (by omega)).trans (by omega)
  refine fun hb hB=>?_
  simp only [LN] at hb
  refine ⟨⟨fun _ h=>absurd h (by decide),fun h0 h=>⟨hB h,fun e=>?_⟩⟩,fun b1 _ Hb=>⟨⟨⟨Nat.zero_le _,fun h=>⟨(Hb h).1,(Hb h).2,fun _ q hq=>absurd hq (by omega)⟩⟩,fun i hi hm=>⟨fun hc=>⟨?_,fun hs _=>⟨?_,?_⟩⟩,fun hc h=>?_⟩⟩,fun b2 Bb=>⟨⟨⟨Nat.zero_le _,fun h=>⟨(Bb h).1,(Bb h).2.1,(Bb h).2.2,fun q hq=>absurd hq (by omega)⟩⟩,fun i hi hm=>⟨fun hc=>⟨fun h2=>?_,fun b _=>⟨?_,fun _ _=>⟨?_,?_⟩,fun _=>⟨?_,fun _ _=>⟨?_,?_⟩,fun hs _=>⟨?_,?_⟩⟩⟩⟩,fun hc h=>?_⟩⟩,fun b3 Jn=>⟨⟨⟨Nat.zero_le _,fun h=>⟨(Jn h).1,(Jn h).2.1,(Jn h).2.2.1,(Jn h).2.2.2,fun q hq=>absurd hq (by omega)⟩⟩,fun i hi hm=>⟨fun hc=>⟨?_,fun hs _=>⟨?_,?_⟩⟩,fun hc h=>?_⟩⟩,fun b4 hb4=>⟨⟨Nat.zero_le _,hb4⟩,fun i hi hm=>⟨fun hc=>⟨?_,fun _=>⟨?_,?_⟩⟩,fun _ h=>hi.2 h⟩⟩⟩⟩⟩⟩
  · simp [e,h] at h0
  all_goals simp only [LN] at hc
  · exact ⟨⟨by omega,by omega⟩,by omega⟩
  · exact w1 _ _ (by omega) (show f.af.length≤200 from by omega)
  · obtain ⟨a1,a2,a3⟩:=hi.2 hc.2
    exact ⟨⟨by omega,fun h=>⟨a1,a2,fun hr=>ext (a3 hr) (hs ⟨⟨by omega,by omega⟩,by omega,hr,a1⟩ h)⟩⟩,by omega⟩
  · have e:i.2=f.af.length:=by omega
    exact e ▸ hi.2 h
  · simp only [LN] at h2
    rw [aq (by omega) (by omega)]
    exact ⟨by omega,by omega⟩
  · exact ⟨by omega,by omega⟩
  · exact w1 _ _ (by omega) (show f.aN.length≤200 from by omega)
  · exact ⟨⟨by omega,fun h=>absurd h (by decide)⟩,by omega⟩
  · exact ⟨by omega,by omega⟩
  · exact w1 _ _ (by omega) (show f.aN.length≤200 from by omega)
  · exact ⟨⟨by omega,fun h=>absurd h (by decide)⟩,by omega⟩
  · exact w1 _ _ (by omega) (show f.aN.length≤200 from by omega)
  · simp only [LN] at hs
    obtain ⟨a1,a2,a3,a4⟩:=hi.2 hc.2
    exact ⟨⟨by omega,fun h=>⟨a1,a2,a3,ext a4 ⟨by omega,by omega⟩⟩⟩,by omega⟩
  · have e:i.2=f.aN.length:=by omega
    exact e ▸ hi.2 h
  · exact ⟨⟨by omega,by omega⟩,by omega,by omega⟩
  · exact w1 _ _ (by omega) (show f.aU.length≤200 from by omega)
  · obtain ⟨a1,a2,a3,a4,a5⟩:=hi.2 hc.2
    exact ⟨⟨by omega,fun h=>⟨a1,a2,a3,a4,ext a5 (hs ⟨⟨by omega,by omega⟩,by omega,by omega⟩ h)⟩⟩,by omega⟩
  · have e:i.2=f.aU.length:=by omega
    exact e ▸ hi.2 h
  · exact ⟨⟨by omega,by omega⟩,by omega⟩
  · exact w1 _ _ (by omega) (show f.facts.length≤200 from by omega)
  · exact ⟨⟨by omega,fun _=>hi.2 hc.2⟩,by omega⟩

def CM r f:=kk tok mixed Tryz.func19 [av r.cells,av f.cells] (fun x=>iv x) true (nX r f) (Qc r f) (u0 (RQ r f)) (fun (x:Int)=>(r.bu.length≤200)→(x=0→dK r f)) (ML r f)
def sd (r:ah) (f:aw):Sk (Bool) :=
 .r 1 ((jQ r).c) fun x1 =>
 .br (x1 != 0)
 (.fin false)
 (.bt
 (.loop (default:Sum (Bool) (Unit)) (fun i3=>i3≤r.ak.length) (fun i3=>r.ak.length - i3) (0:Nat)
 (fun (i3:Nat)=>⟨[(5,iv ((i3:Nat):Int))],[]⟩) fun i3=>let eG:=(bM ((i3:Nat):Int) r.ak.length); let az:=((r.ak.getD i3 default).rules); let cF:=((az.length:Nat):Int);
 .lt 2 4 i3 r.ak.length
 (.bt
 (.bt
 (.loop (default:Sum (Sum (Sum (Sum (Bool) (Unit)) (Nat)) (Int × Int × (List Order) × Int × (List jx) × Int × Bool)) (Int × Int × (List Order) × Int × (List jx) × Int × Bool)) (fun i6=>i6≤az.length) (fun i6=>az.length - i6) (0:Nat)
 (fun (i6:Nat)=>⟨[(6,iv ((i6:Nat):Int))],[]⟩) fun i6=>let aV:=((i6:Nat):Int);
 .r 7 (.p eG) fun _ =>
 .br (decide (aV < cF))
 (.r 9 (.aj (.p eG) (.aj (.p (bM aV (az.length))) ((H9 ((az.getD i6 default).term)).c))) fun x7 =>
 .br (!x7)
 (.fin (.inl (.inl (.inl (.inl (.inl false))))))
 (.nx 8 6 i6 (i6+1)))
 (.fin (.inl (.inr (aV,aV,r.ak,((i3:Nat):Int),(r.ak.getD i3 default).rules,cF,decide (aV < cF))))))
 (fun (b5:Int × Int × (List Order) × Int × (List jx) × Int × Bool)=>⟨[(6,iv b5.1),(17,iv b5.2.1),(19,lv Order.cells b5.2.2.1),(20,iv b5.2.2.2.1),(23,lv jx.cells b5.2.2.2.2.1),(24,iv b5.2.2.2.2.2.1),(25,bv b5.2.2.2.2.2.2)],[]⟩) fun b5 =>
 .fin (.inr (b5.1,b5.2.1,b5.2.2.1,b5.2.2.2.1,b5.2.2.2.2.1,b5.2.2.2.2.2.1,b5.2.2.2.2.2.2)))
 (fun (b4:Int × Int × (List Order) × Int × (List jx) × Int × Bool)=>⟨[(6,iv b4.1),(17,iv b4.2.1),(19,lv Order.cells b4.2.2.1),(20,iv b4.2.2.2.1),(23,lv jx.cells b4.2.2.2.2.1),(24,iv b4.2.2.2.2.2.1),(25,bv b4.2.2.2.2.2.2)],[]⟩) fun _ =>
 .nx 5 5 i3 (i3+1))
 (.fin (.inl (.inr ()))))
 (fun (_:Unit)=>⟨[],[]⟩) fun _ =>
 .r 11 ((CM r f).c) fun x8 =>
 .fin (x8 == 0))
def Dy r f:=(sd r f).val
theorem I6 (r:ah) (f:aw):(sd r f).dq (fun (x:Bool)=>x=true→r.Small∧r.cx∧r.cj∧r.l6∧r.gV∧dK r f):=by
  refine Sk.bh _ ?_
  unfold sd
  simp only [Sk.cK,Sk.aD,reduceCtorEq,ON,kk,kp,jQ,CM,H9,maxLen]
  intro x _ hx hc
  have h:=hx (by simpa using hc)
  refine ⟨⟨Nat.zero_le _,fun i hi uE=>?_⟩,fun _ y _ hy Ti=>?_⟩
  · simp only [LN] at uE
    refine ⟨⟨Nat.zero_le _,fun q hq _ hc3 _ _ _ _=>?_⟩,fun _ _ _=>by omega⟩
    simp only [LN] at hc3
    omega
  · obtain ⟨a1,a2,a3,a4,a5,a6,a7,a8,a9,b1,b2,b3,b4⟩:=h
    refine ⟨⟨by omega,by omega,by omega,by omega,by omega,by omega,by omega,by omega,fun i hi=>?_⟩,a6,b4,a5,b3,hy a4 (by simpa using Ti)⟩
    have:=a8 i hi
    omega

theorem RR (r:ah) (f:aw):(fun (x:Bool)=>x=true→r.Small∧r.cx∧r.cj∧r.l6∧r.gV∧dK r f) (Dy r f):=have h:=Sk.dc _ (I6 r f); h
theorem Xd (r:ah) (f:aw):(sd r f).bq (fun _=>True):=by
  refine Sk.aO _ ?_
  unfold sd
  simp only [Sk.gx,Sk.aD,reduceCtorEq,ON,kk,kp,jQ,CM,H9,maxLen]
  intro x _ hx hc
  have h:=hx (by simpa using hc)
  have a7:=h.2.2.2.2.2.2.1
  have a8:=h.2.2.2.2.2.2.2.1
  refine ⟨Nat.zero_le _,fun i hi hm uE=>?_⟩
  simp only [LN] at uE
  have a9:=a8 i (by omega)
  refine ⟨⟨Nat.zero_le _,fun q hq=>⟨by omega,fun _ hc3=>?_⟩⟩,fun _ _ _=>⟨(aq (by omega) (by omega)).trans (by omega),by omega,by omega⟩⟩
  simp only [LN] at hc3
  exact ⟨by omega,fun _ _ _ _=>⟨(aq (by omega) (by omega)).trans (by omega),by omega,by omega⟩⟩

def Qd r f:=kp tok mixed Tryz.func5 [av r.cells,av f.cells] (fun x=>bv x) true (Dy r f) (u0 (Xd r f)) (I6 r f)
def dQ (v:gG) (v':List Int):Sk ((List bI)) :=
 .rf (ef v v') (fun ki1 i1=>i1.length≤ki1) (fun (_:Unit)=>False) 0 ([]:(List bI))
 (fun (i1:(List bI))=>[(100000,cp 74 3 bI.cells i1),(2,.box [ow 100000 i1])]) (fun (_:Unit)=>[])
 (fun i1 y2 =>
 .r 3 (.aj (.o [.cU (dG bI.E [y2])]) (.aj (.o [.cU (kx bI.E i1 [y2])]) (.aj (.t (bI.E.k6 [y2])) (.p (uG i1.length [y2].length 24))))) fun _ =>
 .fin (.inr (i1++[y2]))) fun r=>match r with
 | .inl _=>(.dead default)
 | .inr j4=>(.fin j4)
def qg v v':=(dQ v v').val
theorem wm (v:gG) (v':List Int) (hp:Me v v'):(dQ v v').bq (fun _=>True):=by
  refine Sk.aO _ ?_
  unfold dQ
  simp only [Sk.gx,Sk.aD,reduceCtorEq,ON,kk,kp,Sk.cK,ef,Sum.forall,maxLen]
  refine ⟨hp,by simp,fun i s y hi hy=>?_⟩
  have h1:=(List.getElem?_eq_some_iff.1 hy).1
  have h2:=Au v v'
  have h3:=hp.1
  have h4:(s++[y]).length=s.length+1:=by simp
  have h5:[y].length=1:=rfl
  rw [h4,h5]
  exact ⟨fun _=>by omega,⟨by omega,by omega⟩,fun _=>by omega⟩

def ji v v':=kk tok mixed Tryz.func50 [nv,.fn 51 [.ref v.cells,.ref [mN bJ v']]] (fun x=>lv bI.cells x) false (dQ v v') (qg v v') (wm v v')
def gI (v:gG) (v':List Int):Sk ((List bI)) :=
 .r 1 ((ji v v').c) fun x1 =>
 .fin x1
def mF v v':=(gI v v').val
theorem CN (v:gG) (v':List Int) (hp:Me v v'):(gI v v').bq (fun _=>True):=by
  unfold gI
  try simp only [ji]
  exact mH

def uC v v':=kk tok mixed Tryz.func22 [.fn 51 [.ref v.cells,.ref [mN bJ v']]] (fun x=>lv bI.cells x) false (gI v v') (mF v v') (CN v v')
def sU (r:ah) (ai:Int) (f:aw) (part:Int) (day:Int):Sk ((List bI)) :=
 .r 1 ((zf r ai f day).c) fun x1 =>
 .r 2 (.wh (!x1.2) false ((aP x1.1.view.lead part).c)) fun x2 =>
 .br ((!x1.2)||(!x2))
 (.fin [])
 (.r 4 (.dep ((gp x1.1.view part).c) fun x3=>.dep ((lq x1.1 x3).c) fun _=>(uC x1.1 x3).c) fun p6 =>
 .fin p6.2.2)
def AK r ai f part day:=(sU r ai f part day).val
theorem OB (r:ah) (ai:Int) (f:aw) (part:Int) (day:Int) (hF:dK r f) (bn:f.Small) (bV:r.cx) (aZ:r.Small):(sU r ai f part day).bq (fun _=>True):=by
  refine Sk.aO _ ?_
  unfold sU
  simp only [Sk.gx,Sk.aD,reduceCtorEq,ON,kk,kp,lq,zf,gp,uC,aP,ux,forall_eq,maxLen]
  refine ⟨⟨bn,bV,aZ⟩,?_⟩
  generalize bB r ai f day=x
  intro hx _ hc
  have VU:x.2=true:=by
    cases h:x.2 with
    | true=>rfl
    | false=>rw [h] at hc; simp at hc
  have he:=(hx VU).1
  have ho:=xW f day
  dsimp only at ho
  have pF:x.1.view.all=f:=by rw [he]; exact ho.1
  have Cz:x.1.view.now=au f day:=by rw [he]; exact ho.2.1
  have JS:x.1.view.day=day:=by rw [he]; exact ho.2.2.1
  have hxr:x.1.r=r:=by rw [he]
  refine ⟨by rw [pF]; exact bn,fun hl _=>?_⟩
  rw [pF,JS] at hl
  have ae0:=hF.2.1.1
  refine ⟨by omega,fun i hi=>?_,fun i hi=>?_⟩
  · have h:=hl.2 _ (fX hi default)
    rw [Cz]
    exact ⟨h.1,hF.abl h.1 h.2.1 h.2.2⟩
  · have hs:x.1.view.now.Small:=by rw [Cz]; exact qy bn day
    have hb:x.1.r.cx:=by rw [hxr]; exact bV
    have hr:x.1.r.Small:=by rw [hxr]; exact aZ
    exact ⟨hs,hb,hr⟩

def GI r ai f part day:=kk tok mixed Tryz.func7 [av r.cells,iv ai,av f.cells,iv part,iv day] (fun x=>lv bI.cells x) false (sU r ai f part day) (AK r ai f part day) (u4 (OB r ai f part day))
theorem zy {α:Type} [Inhabited α] (p:α→Bool):∀ (l:List α) (i:Nat),i≤l.length→(∀ q,q < i→p (l.getD q default)=true)→(i=l.length∨p (l.getD i default)=false)→i=(l.takeWhile p).length
  | [],i,h,_,_=>by simpa using h
  | x :: r,0,_,_,h=>by
    have h:p x=false:=by
      rcases h with h | h
      · simp at h
      · exact h
    rw [List.takeWhile_cons,h]; rfl
  | x :: r,i+1,h,hp,he=>by
    have h0:p x=true:=hp 0 (by omega)
    rw [List.takeWhile_cons,h0,if_pos rfl,List.length_cons]
    have:=zy p r i (by simpa using h) (fun q hq=>hp (q+1) (by omega)) (by simpa using he)
    omega
theorem Xe {α:Type} [Inhabited α] (l:List α) (n:Nat) (h:n≤l.length):mO l 0 n=l.take n:=by
  refine List.ext_getElem (by simp [mO]; omega) (fun i h1 h2=>?_)
  have hi:i < l.length:=by rw [IM] at h1; omega
  simp [mO,List.getD,hi]
theorem YH {α:Type} [Inhabited α] (p:α→Bool) (l:List α):mO l 0 (l.takeWhile p).length=l.takeWhile p:=by
  rw [Xe _ _ (List.takeWhile_sublist _).length_le]
  exact (List.prefix_iff_eq_take.1 (List.takeWhile_prefix p)).symm
theorem kZ {α:Type} [Inhabited α] (p:α→Bool) (l:List α) (i:Nat) (h:i < l.length):(l.take (i+1)).filter p=(l.take i).filter p++(bif p (l.getD i default) then [l.getD i default] else []):=by
  rw [List.take_succ_eq_append_getElem h,List.filter_append,show l.getD i default=l[i] by simp [List.getD,h]]
  cases hc:p l[i] <;> simp [hc]
theorem RS {P:Nat→Prop} {i:Nat} (h:∀ q,q < i→P q) (h2:P i) (q:Nat) (hq:q < i+1):P q:=(Nat.lt_succ_iff_lt_or_eq.1 hq).elim (h q) (fun e=>e ▸ h2)
theorem CO {α:Type} (p:α→Bool) (l:List α) (i:Nat):((l.take i).filter p).length≤i:=Nat.le_trans (List.length_filter_le _ _) (by rw [List.length_take]; exact Nat.min_le_left _ _)
def zA (f:aw) (day:Int):Sk (aw):=let RT:=((f.aU.length:Nat):Int); let q9_:=((f.af.length:Nat):Int);
 .bind true (fun b1=>b1=((f.af.takeWhile (fun s=>decide (s.day≤day))).length:Int))
 (.loop (default:Sum (aw) (Int)) (fun i2=>i2≤f.af.length∧∀ q,q < i2→(f.af.getD q default).day≤day) (fun i2=>f.af.length - i2) (0:Nat)
 (fun (i2:Nat)=>⟨[(5,iv ((i2:Nat):Int))],[]⟩) fun i2=>let HA:=((i2:Nat):Int); let kV:=(decide (HA < q9_));
 .Eb 2 15 f.af.length <|
 .r 2 (.wh kV true (.p (bM HA f.af.length))) fun _ =>
 .br (kV&&(decide (((f.af.getD i2 default).day)≤day)))
 (.nx 3 5 i2 (i2+1))
 (.fin (.inl (.inr HA))))
 (fun (b1:Int)=>⟨[(5,iv b1)],[]⟩) fun b1=>let az:=(mO f.af 0 b1.toNat);
 .bind true (fun b3=>b3=((f.aU.takeWhile (fun s=>decide (s.day≤day))).length:Int))
 (.loop (default:Sum (aw) (Int)) (fun i4=>i4≤f.aU.length∧∀ q,q < i4→(f.aU.getD q default).day≤day) (fun i4=>f.aU.length - i4) (0:Nat)
 (fun (i4:Nat)=>⟨[(6,iv ((i4:Nat):Int))],[]⟩) fun i4=>let NR:=((i4:Nat):Int); let rz:=(decide (NR < RT));
 .Eb 2 17 f.aU.length <|
 .r 5 (.wh rz true (.p (bM NR f.aU.length))) fun _ =>
 .br (rz&&(decide (((f.aU.getD i4 default).day)≤day)))
 (.nx 6 6 i4 (i4+1))
 (.fin (.inl (.inr NR))))
 (fun (b3:Int)=>⟨[(6,iv b3)],[]⟩) fun b3=>let aV:=(mO f.aU 0 b3.toNat);
 .r 7 (.aj (.o [.cU (dG Sign.E ([]:List Sign))]) (.aj (.aj (.o [.cU (acX Sign.E f.af 0 b1.toNat)]) (.pt (0≤b1∧b1≤q9_) (Sign.E.lens f.af))) (.aj (.aj (.o [.cU (kx Sign.E ([]:List Sign) az)]) (.aj (.t (Sign.E.src az)) (.p (uG (([]:List Sign).length) az.length 72)))) (.aj (.o [.cU (dG cT.E ([]:List cT))]) (.aj (.aj (.o [.cU (acX cT.E f.aU 0 b3.toNat)]) (.pt (0≤b3∧b3≤RT) (cT.E.lens f.aU))) (.aj (.o [.cU (kx cT.E ([]:List cT) aV)]) (.aj (.t (cT.E.src aV)) (.p (uG (([]:List cT).length) aV.length 72))))))))) fun _ =>
 .bind true (fun b5=>b5=f.aN.filter (fun a=>decide (a.at_≤b1)))
 (.loop (default:Sum (aw) ((List cZ))) (fun i6=>i6.1≤f.aN.length∧i6.2=(f.aN.take i6.1).filter (fun a=>decide (a.at_≤b1))) (fun i6=>f.aN.length - i6.1) ((0,[]):Nat × (List cZ))
 (fun (i6:Nat × (List cZ))=>⟨[(8,iv ((i6.1:Nat):Int))],[(100002,cp 117 2 cZ.cells i6.2),(7,.box (f.aM.cells.map .d++[ow 51 (([]:List Sign)++az),ow 100002 i6.2,ow 57 (([]:List cT)++aV)]++[nv]))]⟩) fun i6=>let B2:=(bM ((i6.1:Nat):Int) f.aN.length);
 .lt 2 16 i6.1 f.aN.length
 (.r 11 (.p B2) fun _ =>
 .br (decide (((f.aN.getD i6.1 default).at_)≤b1))
 (.r 12 (.aj (.p B2) (.aj (.o [.cU (dG cZ.E [f.aN.getD i6.1 default])]) (.aj (.o [.cU (kx cZ.E i6.2 [f.aN.getD i6.1 default])]) (.aj (.t (cZ.E.k6 [f.aN.getD i6.1 default])) (.p (uG i6.2.length [f.aN.getD i6.1 default].length 16)))))) fun _ =>
 .nx 10 8 i6.1 (i6.1+1,i6.2++[f.aN.getD i6.1 default]))
 (.nx 10 8 i6.1 (i6.1+1,i6.2)))
 (.fin (.inl (.inr i6.2))))
 (fun (b5:(List cZ))=>⟨[],[(100001,cp 117 2 cZ.cells b5),(7,.box (f.aM.cells.map .d++[ow 51 (([]:List Sign)++az),ow 100001 b5,ow 57 (([]:List cT)++aV)]++[nv]))]⟩) fun b5 =>
 .bind true (fun b7=>b7=f.facts.filter (fun x=>decide (x.at_≥0)&&decide (x.at_ < b1)))
 (.loop (default:Sum (aw) ((List Fact))) (fun i8=>i8.1≤f.facts.length∧i8.2=(f.facts.take i8.1).filter (fun x=>decide (x.at_≥0)&&decide (x.at_ < b1))) (fun i8=>f.facts.length - i8.1) ((0,[]):Nat × (List Fact))
 (fun (i8:Nat × (List Fact))=>⟨[(9,iv ((i8.1:Nat):Int))],[(100005,cp 111 3 Fact.cells i8.2),(7,.box (f.aM.cells.map .d++[ow 51 (([]:List Sign)++az),ow 100001 b5,ow 57 (([]:List cT)++aV),ow 100005 i8.2]))]⟩) fun i8=>let eG:=((f.facts.getD i8.1 default).at_); let cF:=(bM ((i8.1:Nat):Int) f.facts.length);
 .lt 2 18 i8.1 f.facts.length
 (.r 16 (.aj (.p cF) (.wh (decide (eG≥0)) true (.p cF))) fun _ =>
 .br ((decide (eG≥0))&&(decide (eG < b1)))
 (.r 17 (.aj (.p cF) (.aj (.o [.cU (dG Fact.E [f.facts.getD i8.1 default])]) (.aj (.o [.cU (kx Fact.E i8.2 [f.facts.getD i8.1 default])]) (.aj (.t (Fact.E.k6 [f.facts.getD i8.1 default])) (.p (uG i8.2.length [f.facts.getD i8.1 default].length 24)))))) fun _ =>
 .nx 15 9 i8.1 (i8.1+1,i8.2++[f.facts.getD i8.1 default]))
 (.nx 15 9 i8.1 (i8.1+1,i8.2)))
 (.fin (.inl (.inr i8.2))))
 (fun (b7:(List Fact))=>⟨[],[(100004,cp 111 3 Fact.cells b7),(7,.box (f.aM.cells.map .d++[ow 51 (([]:List Sign)++az),ow 100001 b5,ow 57 (([]:List cT)++aV),ow 100004 b7]))]⟩) fun b7 =>
 .fin ({ f with af:=([]:List Sign)++az,aN:=b5,aU:=([]:List cT)++aV,facts:=b7 })
def ui f day:=(zA f day).val
theorem MM (f:aw) (day:Int):(zA f day).dq (fun (x:aw)=>x=au f day):=by
  refine Sk.bh _ ?_
  unfold zA
  simp only [Sk.cK,Sk.aD,reduceCtorEq,ON,kk,kp,aw.Small,ah.Small,maxLen]
  refine ⟨⟨⟨Nat.zero_le _,fun q hq=>absurd hq (by omega)⟩,fun i hi _=>⟨fun hc _=>?_,fun hc=>?_⟩⟩,fun b1 Hb=>⟨⟨⟨Nat.zero_le _,fun q hq=>absurd hq (by omega)⟩,fun i hi _=>⟨fun hc _=>?_,fun hc=>?_⟩⟩,fun b3 Jn _=>⟨⟨⟨Nat.zero_le _,rfl⟩,fun i hi=>⟨fun hc _=>⟨fun h _ _=>?_,fun h _=>?_⟩,fun hc=>?_⟩⟩,fun b5 hb5=>⟨⟨⟨Nat.zero_le _,rfl⟩,fun i hi=>⟨fun hc _=>⟨fun h _ _=>?_,fun h _=>?_⟩,fun hc=>?_⟩⟩,fun b7 hb7=>?_⟩⟩⟩⟩
  · simp only [LN] at hc
    exact ⟨⟨by omega,RS hi.2 hc.2⟩,by omega⟩
  · simp only [LN] at hc
    have:=zy (fun s:Sign=>decide (s.day≤day)) f.af i hi.1 (fun q hq=>decide_eq_true (hi.2 q hq)) (by rw [decide_eq_false_iff_not]; omega)
    omega
  · simp only [LN] at hc
    exact ⟨⟨by omega,RS hi.2 hc.2⟩,by omega⟩
  · simp only [LN] at hc
    have:=zy (fun s:cT=>decide (s.day≤day)) f.aU i hi.1 (fun q hq=>decide_eq_true (hi.2 q hq)) (by rw [decide_eq_false_iff_not]; omega)
    omega
  · simp only [LN] at hc
    refine ⟨⟨by omega,?_⟩,by omega⟩
    rw [kZ _ _ _ (by omega),← hi.2]; simp only [h,cond_true]
  · simp only [LN] at hc
    refine ⟨⟨by omega,?_⟩,by omega⟩
    rw [kZ _ _ _ (by omega),← hi.2]; simp only [h,cond_false,List.append_nil]
  · simp only [LN] at hc
    have e:i.1=f.aN.length:=by omega
    rw [hi.2,e,List.take_length]
  · simp only [LN] at hc
    refine ⟨⟨by omega,?_⟩,by omega⟩
    rw [kZ _ _ _ (by omega),← hi.2]; simp only [h,cond_true]
  · simp only [LN] at hc
    refine ⟨⟨by omega,?_⟩,by omega⟩
    rw [kZ _ _ _ (by omega),← hi.2]; simp only [h,cond_false,List.append_nil]
  · simp only [LN] at hc
    have e:i.1=f.facts.length:=by omega
    rw [hi.2,e,List.take_length]
  · subst Hb Jn hb5 hb7
    rw [Int.toNat_natCast,Int.toNat_natCast,YH,YH,List.nil_append,List.nil_append,eW]

theorem CP (f:aw) (day:Int):(fun (x:aw)=>x=au f day) (ui f day):=have h:=Sk.dc _ (MM f day); h
theorem ZU (f:aw) (day:Int) (hf:f.Small):(zA f day).bq (fun _=>True):=by
  simp only [aw.Small,ah.Small] at hf
  refine Sk.aO _ ?_
  unfold zA
  simp only [Sk.gx,Sk.aD,reduceCtorEq,ON,kk,kp,aw.Small,ah.Small,maxLen]
  have w1:∀ i n:Nat,i < n→n≤1000000→aK ((i:Int)+1)=((i+1:Nat):Int):=fun i n h h2=>(aq (by omega) (by omega)).trans (by omega)
  obtain ⟨n1,n2,n3,n4⟩:=hf
  have s1:=(List.takeWhile_sublist (l:=f.af) fun s=>decide (s.day≤day)).length_le
  have s2:=(List.takeWhile_sublist (l:=f.aU) fun s=>decide (s.day≤day)).length_le
  refine ⟨⟨⟨Nat.zero_le _,fun q hq=>absurd hq (by omega)⟩,fun i hi _=>⟨fun hc=>?_,fun _=>⟨fun hc _=>?_,fun hc=>?_⟩⟩⟩,fun b1 Hb=>⟨⟨⟨Nat.zero_le _,fun q hq=>absurd hq (by omega)⟩,fun i hi _=>⟨fun hc=>?_,fun _=>⟨fun hc _=>?_,fun hc=>?_⟩⟩⟩,fun b3 Jn=>⟨?_,fun _=>⟨⟨⟨Nat.zero_le _,rfl⟩,fun i hi _=>⟨fun hc=>⟨?_,fun _=>⟨fun h=>⟨?_,fun _ _=>⟨?_,?_⟩⟩,fun h _=>⟨?_,?_⟩⟩⟩,fun hc=>?_⟩⟩,fun b5 hb5=>⟨⟨Nat.zero_le _,rfl⟩,fun i hi _=>⟨fun hc=>⟨?_,fun _=>⟨fun h=>⟨?_,fun _ _=>⟨?_,?_⟩⟩,fun h _=>⟨?_,?_⟩⟩⟩,fun hc=>?_⟩⟩⟩⟩⟩⟩
  · simp only [LN] at hc
    exact ⟨by omega,by omega⟩
  · simp only [LN] at hc
    exact ⟨w1 _ _ (by omega) n1,⟨by omega,RS hi.2 hc.2⟩,by omega⟩
  · simp only [LN] at hc
    have:=zy (fun s:Sign=>decide (s.day≤day)) f.af i hi.1 (fun q hq=>decide_eq_true (hi.2 q hq)) (by rw [decide_eq_false_iff_not]; omega)
    omega
  · simp only [LN] at hc
    exact ⟨by omega,by omega⟩
  · simp only [LN] at hc
    exact ⟨w1 _ _ (by omega) n3,⟨by omega,RS hi.2 hc.2⟩,by omega⟩
  · simp only [LN] at hc
    have:=zy (fun s:cT=>decide (s.day≤day)) f.aU i hi.1 (fun q hq=>decide_eq_true (hi.2 q hq)) (by rw [decide_eq_false_iff_not]; omega)
    omega
  · simp only [LN]
    omega
  · simp only [LN] at hc
    exact ⟨by omega,by omega⟩
  · simp only [LN] at hc ⊢
    have:=CO (fun a:cZ=>decide (a.at_≤b1)) f.aN i.1
    rw [← hi.2] at this
    omega
  · simp only [LN] at hc
    exact w1 _ _ (by omega) n2
  · simp only [LN] at hc
    refine ⟨⟨by omega,?_⟩,by omega⟩
    rw [kZ _ _ _ (by omega),← hi.2]; simp only [h,cond_true]
  · simp only [LN] at hc
    exact w1 _ _ (by omega) n2
  · simp only [LN] at hc
    refine ⟨⟨by omega,?_⟩,by omega⟩
    rw [kZ _ _ _ (by omega),← hi.2]; simp only [h,cond_false,List.append_nil]
  · simp only [LN] at hc
    have e:i.1=f.aN.length:=by omega
    rw [hi.2,e,List.take_length]
  · simp only [LN] at hc
    exact ⟨⟨by omega,by omega⟩,fun _=>⟨by omega,by omega⟩⟩
  · simp only [LN] at hc ⊢
    have:=CO (fun x:Fact=>decide (x.at_≥0)&&decide (x.at_ < b1)) f.facts i.1
    rw [← hi.2] at this
    omega
  · simp only [LN] at hc
    exact w1 _ _ (by omega) n4
  · simp only [LN] at hc
    refine ⟨⟨by omega,?_⟩,by omega⟩
    rw [kZ _ _ _ (by omega),← hi.2]; simp only [h,cond_true]
  · simp only [LN] at hc
    exact w1 _ _ (by omega) n4
  · simp only [LN] at hc
    refine ⟨⟨by omega,?_⟩,by omega⟩
    rw [kZ _ _ _ (by omega),← hi.2]; simp only [h,cond_false,List.append_nil]
  · simp only [LN] at hc
    have e:i.1=f.facts.length:=by omega
    rw [hi.2,e,List.take_length]

def rb f day:=kp tok mixed Tryz.func27 [av f.cells,iv day] (fun x=>av x.cells) false (ui f day) (ZU f day) (MM f day)
/-- where a mf comes from -/
structure ajz (r:ah) (ai:Int) (f:aw) (day:Int) (c:Claim) (part:Int) (o:bI) (sign:Int):Prop where
  lead:part∈(bN f day).lead
  own:o∈bC (bB r ai f day).1 (aQ (bN f day) part)
  li:sign∈cH (bN f day) part o.sign (aQ (bN f day) part)
  st:(eZ (bB r ai f day).1 o sign (aQ (bN f day) part) (fH r ai f day)).1≠0
  ne:((au f day).af.getD sign.toNat default).ja≠o.qj
  eq:c = { qw:=((au f day).af.getD sign.toNat default).ja,jy:=o.qj,part:=part,sign:=sign,ka:=o.sign,FV:=(eZ (bB r ai f day).1 o sign (aQ (bN f day) part) (fH r ai f day)).2,sum:=(xz r ai f sign day).rest,bj:=f.aM.bj,state:=(eZ (bB r ai f day).1 o sign (aQ (bN f day) part) (fH r ai f day)).1 }
theorem GJ {α:Type} [Inhabited α] (p:α→Bool) (l:List α) (i:Nat) (h:i < l.length):(l.take (i+1)).any p=((l.take i).any p||p (l.getD i default)):=by
  rw [List.take_succ_eq_append_getElem h,List.any_append,show l.getD i default=l[i] by simp [List.getD,h]]
  simp
theorem MN:∀ (l m:List Int),l.Pairwise (· < ·)→m.Pairwise (· < ·)→(∀ x,x∈l↔x∈m)→l=m
  | [],[],_,_,_=>rfl
  | [],y :: m,_,_,h=>absurd ((h y).2 (by simp)) (by simp)
  | x :: l,[],_,_,h=>absurd ((h x).1 (by simp)) (by simp)
  | x :: l,y :: m,h1,h2,h=>by
    rw [List.pairwise_cons] at h1 h2
    have e:x=y:=by
      rcases List.mem_cons.1 ((h x).1 (by simp)) with hx | hx
      · exact hx
      · rcases List.mem_cons.1 ((h y).2 (by simp)) with hy | hy
        · exact hy.symm
        · have:=h1.1 y hy; have:=h2.1 x hx; omega
    subst e
    rw [MN l m h1.2 h2.2 (fun z=>⟨fun hz=>?_,fun hz=>?_⟩)]
    · rcases List.mem_cons.1 ((h z).1 (by simp [hz])) with e | e
      · subst e; exact absurd (h1.1 _ hz) (by omega)
      · exact e
    · rcases List.mem_cons.1 ((h z).2 (by simp [hz])) with e | e
      · subst e; exact absurd (h2.1 _ hz) (by omega)
      · exact e
theorem MO (f:aw) (day k:Int):Ht (ee f day) k false=f.aU.any (fun a=>((a.kind == 7)&&decide (a.day≤day))&&(a.at_ == k)):=by
  unfold ee lH
  dsimp +instances only [Sk.cz,Sk.cY,Sk.ct,Sk.bK,Sk.cE,Sk.cV,Sk.Q6,Sk.bg]
  rw [jW f.aU (fun s i=>(i,s)) (fun x (s:List (Int × Bool))=>Sum.inr (bif (x.kind == 7)&&decide (x.day≤day) then vB s x.at_ true else s)) (fun s=>Sum.inr s) (fun s i hi=>?_) (fun s=>?_) (by omega) []]
  · rw [jm (fun (x:cT) s=>bif (x.kind == 7)&&decide (x.day≤day) then vB s x.at_ true else s)]
    simp only [cX]
    rw [P4 f.aU (fun a=>(a.kind == 7)&&decide (a.day≤day)) k []]
    show (_||false)=_
    rw [Bool.or_false]
  · rw [decide_eq_true (by omega),cond_true]
    cases ((f.aU.getD i default).kind == 7)&&decide ((f.aU.getD i default).day≤day) <;> rfl
  · rw [decide_eq_false (by omega),cond_false]
theorem abJ (f:aw) (day part:Int):(bo f day part).map (·.1)=((List.range f.af.length).filter (oH f day part)).map fun i=>((i:Nat):Int):=by
  unfold bo
  rw [List.map_map]; rfl
/-- Pv ac8 YV follow from a cL on -/
def se (f:aw):List Int→Int→List Int
  | [],_=>[]
  | y :: r,h=>bif (h != (-1))&&((f.af.getD y.toNat default).ja != h) then [] else y :: se f r ((f.af.getD y.toNat default).cr)
theorem UY (f:aw) (part day:Int):(jJ f part day).af=se f ((bo f day part).map (·.1)) f.aM.fY:=by
  unfold jJ kH
  dsimp +instances only [Sk.cz,Sk.cY,Sk.ct,Sk.bK,Sk.cE,Sk.cV,Sk.bg,Sk.WM,fD.wG,kk,kp,bH.xU,ke,jI,gz,sK]
  have key:∀ (l:List (Int × Sign)) (s:List Int × Int × Bool × Int × List Int),(∀ y,y∈l→y.2=f.af.getD y.1.toNat default)→s.2.2.1=(s.2.1 == (-1)) →
      (match ou (fun (s:List Int × Int × Bool × Int × List Int) (y:Int × Sign)=>bif (!s.2.2.1)&&(y.2.ja != s.2.1) then (Sum.inl (s.1,s.2.1,y.1,s.2.2.1,s.2.2.2.1,s.2.2.2.2):(List Int × Int × Int × Bool × Int × List Int) ⊕ (List Int × Int × Bool × Int × List Int)) else bif (jH f day).2&&decide (y.2.day > (jH f day).1) then Sum.inr (s.1++[y.1],y.2.cr,y.2.cr == (-1),Cp s.2.2.2.1 y.2.flags,s.2.2.2.2++[y.1]) else Sum.inr (s.1++[y.1],y.2.cr,y.2.cr == (-1),Cp s.2.2.2.1 y.2.flags,s.2.2.2.2)) l s with | .inl e=>e.1 | .inr s'=>s'.1)=s.1++se f (l.map (·.1)) s.2.1:=by
    intro l
    induction l with
    | nil=>intro s _ _; simp [ou,se]
    | cons y r ih =>
      intro s hy hs
      have h2:=hy y (by simp)
      simp only [ou,List.map_cons,se,hs,h2]
      rw [show (!(s.2.1 == (-1)))=(s.2.1 != (-1)) from rfl]
      cases (s.2.1 != (-1))&&((f.af.getD y.1.toNat default).ja != s.2.1) with
      | true=>simp
      | false =>
        simp only [cond_false]
        cases (jH f day).2&&decide ((f.af.getD y.1.toNat default).day > (jH f day).1) with
        | true =>
          simp only [cond_true]
          rw [ih _ (fun z hz=>hy z (by simp [hz])) rfl]
          simp
        | false =>
          simp only [cond_false]
          rw [ih _ (fun z hz=>hy z (by simp [hz])) rfl]
          simp
  have k:=key (bo f day part) ([],f.aM.fY,f.aM.fY == (-1),0,[]) (fun y hy=>by
    obtain ⟨i,hi⟩:=List.getElem?_of_mem hy
    exact (Gp hi).2.2.2.1) rfl
  rw [List.nil_append] at k
  rw [← k]
  generalize hr:ou _ _ _=r
  cases r <;> rfl
theorem Ib (now:aw) (x:Int):x∈tD now↔∃ q,q < now.af.length∧(now.af.getD q default).kind=2∧wa now ((q:Nat):Int)=false∧(now.af.getD q default).part=x:=by
  unfold tD
  rw [List.mem_map]
  constructor
  · rintro ⟨q,hq,rfl⟩
    rw [List.mem_filter,List.mem_range,Bool.and_eq_true,beq_iff_eq,Bool.not_eq_true'] at hq
    exact ⟨q,hq.1,hq.2.1,hq.2.2,rfl⟩
  · rintro ⟨q,h1,h2,h3,rfl⟩
    exact ⟨q,by rw [List.mem_filter,List.mem_range,Bool.and_eq_true,beq_iff_eq,Bool.not_eq_true']; exact ⟨h1,h2,h3⟩,rfl⟩
open Classical in
/-- Pv leading parts below a number -/
def sf (now:aw) (n:Nat):List Int:=((List.range n).filter fun p=>decide (((p:Nat):Int)∈tD now)).map fun p=>((p:Nat):Int)
theorem xE (now:aw) (n:Nat) (b:Bool) (h:b=true↔((n:Nat):Int)∈tD now):sf now (n+1)=bif b then sf now n++[((n:Nat):Int)] else sf now n:=by
  unfold sf
  rw [List.range_succ,List.filter_append,List.map_append]
  cases b with
  | true=>simp [h.1 rfl]
  | false =>
    have:¬ ((n:Nat):Int)∈tD now:=fun hx=>by have:=h.2 hx; exact absurd this (by decide)
    simp [this]
theorem ZV (now:aw) (n:Nat) (h:∀ q,q < now.af.length→0≤(now.af.getD q default).part∧(now.af.getD q default).part < (n:Int)):sf now n=Lib.compact (iA (tD now)):=by
  obtain ⟨h1,h2⟩:=Rw (tD now)
  refine MN _ _ ?_ h1 (fun x=>?_)
  · unfold sf
    rw [List.pairwise_map]
    exact (List.pairwise_lt_range.sublist List.filter_sublist).imp (fun h=>by simp; omega)
  · rw [h2]
    unfold sf
    rw [List.mem_map]
    constructor
    · rintro ⟨p,hp,rfl⟩
      simpa using (List.mem_filter.1 hp).2
    · intro hx
      obtain ⟨q,hq,-,-,e⟩:=(Ib now x).1 hx
      have:=h q hq
      refine ⟨x.toNat,List.mem_filter.2 ⟨List.mem_range.2 (by omega),?_⟩,by omega⟩
      rw [decide_eq_true_eq,show ((x.toNat:Nat):Int)=x by omega]
      exact hx
theorem Xf (f:aw) (day:Int):iD f day=bif (((Lib.compact (iA (tD (au f day)))).length:Nat):Int) == 0 then [0] else Lib.compact (iA (tD (au f day))):=by
  have e:iD f day=(bN f day).lead:=by kernel_rfl
  rw [e,Gx]
theorem Xg (now:aw) (n:Nat):(sf now n).length≤n:=by
  unfold sf
  rw [List.length_map]
  exact Nat.le_trans (List.length_filter_le _ _) (by simp)
theorem abK {P:Nat→Prop} {i:Nat} (h:∀ q,q < i→P q) (h2:P i) (q:Nat) (hq:q < i+1):P q:=(Nat.lt_succ_iff_lt_or_eq.1 hq).elim (h q) (fun e=>e ▸ h2)
theorem abL {l:List Int} {k:Int} (h:∀ q,q < l.length→l.getD q default≠k):¬ k∈l:=fun hk=>by
  obtain ⟨i,hi,e⟩:=List.getElem_of_mem hk
  exact h i hi (by simp [List.getD,hi,e])
theorem I7 (f:aw) (x:List Int) (i:Nat) (h:Int) (hi:i < x.length):se f (x.drop i) h=bif (h != (-1))&&((f.af.getD (x.getD i default).toNat default).ja != h) then [] else x.getD i default :: se f (x.drop (i+1)) ((f.af.getD (x.getD i default).toNat default).cr):=by
  rw [List.drop_eq_getElem_cons hi,show x.getD i default=x[i] by simp [List.getD,hi]]
  rfl
theorem UZ {f:aw} {day part:Int} {x:List Int} (hx:x=(bo f day part).map (·.1)) (i:Nat) (hi:i < x.length):0≤x.getD i default∧x.getD i default < (f.af.length:Int):=by
  have hm:x.getD i default∈(bo f day part).map (·.1):=hx ▸ fX hi _
  obtain ⟨z,hz,e⟩:=List.mem_map.1 hm
  obtain ⟨q,hq⟩:=List.getElem?_of_mem hz
  have:=Gp hq
  rw [← e]
  exact ⟨this.2.1,this.2.2.1⟩
theorem Qe {f:aw} {day:Int} (h:∀ q,q < (au f day).af.length→0≤((au f day).af.getD q default).part∧((au f day).af.getD q default).part < 4) {b:List Int} (hb:b=sf (au f day) 4):iD f day=bif ((b.length:Nat):Int) == 0 then b++[0] else b:=by
  rw [Xf,← ZV (au f day) 4 (fun q hq=>h q hq),← hb]
  cases hc:((b.length:Nat):Int) == 0 with
  | true =>
    have:b=[]:=by rw [beq_iff_eq] at hc; exact List.length_eq_zero_iff.1 (by omega)
    rw [this]; rfl
  | false=>rfl
def oT (f:aw) (sign:Int):Sk (Bool) :=
 .bind true (fun b1=>f.aU.any (fun a:cT=>(a.kind == 7)&&(a.at_ == sign))=false)
 (.loop (default:Sum (Bool) (Unit)) (fun i2=>i2≤f.aU.length∧(f.aU.take i2).any (fun a:cT=>(a.kind == 7)&&(a.at_ == sign))=false) (fun i2=>f.aU.length - i2) (0:Nat)
 (fun (i2:Nat)=>⟨[(5,iv ((i2:Nat):Int))],[]⟩) fun i2=>let aV:=(bM ((i2:Nat):Int) f.aU.length); let az:=(f.aU.getD i2 default);
 .lt 2 17 i2 f.aU.length
 (.r 4 (.aj (.p aV) (.wh ((az.kind) == 7) true (.p aV))) fun _ =>
 .br (((az.kind) == 7)&&((az.at_) == sign))
 (.fin (.inl (.inl true)))
 (.nx 3 5 i2 (i2+1)))
 (.fin (.inl (.inr ()))))
 (fun (_:Unit)=>⟨[],[]⟩) fun _ =>
 .fin false
def Xh f sign:=(oT f sign).val
theorem MP (f:aw) (sign:Int):(oT f sign).dq (fun (x:Bool)=>x=wa f sign):=by
  refine Sk.bh _ ?_
  unfold oT
  simp only [Sk.cK,Sk.aD,reduceCtorEq,ON,kk,kp,maxLen]
  refine ⟨⟨⟨Nat.zero_le _,rfl⟩,fun i hi=>⟨fun hc _=>⟨fun h=>?_,fun h _=>?_⟩,fun hc=>?_⟩⟩,fun _ hb=>hb.symm⟩
  all_goals simp only [LN] at hc
  · exact (List.any_eq_true.2 ⟨f.aU.getD i default,fX (by omega) _,h⟩).symm
  · refine ⟨⟨by omega,?_⟩,by omega⟩
    rw [GJ _ _ _ (by omega),hi.2,Bool.false_or]; exact h
  · have e:i=f.aU.length:=by omega
    have h2:=hi.2
    rw [e,List.take_length] at h2
    exact h2

theorem OC (f:aw) (sign:Int):(oT f sign).bq (fun _=>True):=by
  refine Sk.aO _ ?_
  unfold oT
  simp only [Sk.gx,Sk.aD,reduceCtorEq,ON,kk,kp,maxLen]
  refine ⟨⟨Nat.zero_le _,rfl⟩,fun i hi hm=>⟨fun hc=>⟨?_,fun _ h _=>⟨?_,⟨?_,?_⟩,?_⟩⟩,fun hc=>?_⟩⟩
  all_goals simp only [LN] at hc
  · exact ⟨⟨by omega,by omega⟩,fun _=>⟨by omega,by omega⟩⟩
  · exact (aq (by omega) (by omega)).trans (by omega)
  · omega
  · rw [GJ _ _ _ (by omega),hi.2,Bool.false_or]; exact h
  · omega
  · have e:i=f.aU.length:=by omega
    have h2:=hi.2
    rw [e,List.take_length] at h2
    exact h2

def AL f sign:=kp tok mixed Tryz.func54 [av f.cells,iv sign] (fun x=>bv x) true (Xh f sign) (u0 (OC f sign)) (MP f sign)
def ni (f:aw) (day:Int):Sk ((List Int)) :=
 .r 1 ((rb f day).c) fun x1 =>
 .r 2 (.o [.cU (dG cN ([]:List Int))]) fun _ =>
 .bind true (fun b2=>b2=sf (au f day) 4)
 (.loop (default:Sum ((List Int)) ((List Int))) (fun i3=>i3.2≤4∧i3.1=sf (au f day) i3.2) (fun i3=>4 - i3.2) ((([]:List Int),0):(List Int) × Nat)
 (fun (i3:(List Int) × Nat)=>⟨[(6,ow 100006 i3.1),(7,iv ((i3.2:Nat):Int))],[(100006,cp 3 1 bJ i3.1)]⟩) fun i3=>let az:=((i3.2:Nat):Int);
 .br (decide (az < 4))
 (.bind true (fun b4=>b4=sf (au f day) (i3.2+1))
 (.bind true (fun b5=>b5.1=true↔az∈tD x1)
 (.loop (default:Sum (Sum (Sum (Sum ((List Int)) ((List Int))) ((List Int) × Nat)) ((List Int))) (Bool × Int)) (fun i6=>i6.2≤x1.af.length∧(i6.1=true↔∃ q,q < i6.2∧(x1.af.getD q default).kind=2∧wa x1 ((q:Nat):Int)=false∧(x1.af.getD q default).part=az)) (fun i6=>x1.af.length - i6.2) ((false,0):Bool × Nat)
 (fun (i6:Bool × Nat)=>⟨[(8,bv i6.1),(9,iv ((i6.2:Nat):Int))],[]⟩) fun i6=>let cF:=((i6.2:Nat):Int); let aV:=(x1.af.getD i6.2 default); let eG:=(((aV.kind) == 2)&&((aV.part) == az));
 .lt 5 15 i6.2 x1.af.length
 (.r 10 (.aj (.p (bM cF x1.af.length)) (.aj (.wh ((aV.kind) == 2) true (.p (bM cF x1.af.length))) (.wh eG true ((AL x1 cF).c)))) fun x7 =>
 .br (eG&&(!x7))
 (.nx 9 9 i6.2 (true,i6.2+1))
 (.nx 9 9 i6.2 (i6.1,i6.2+1)))
 (.fin (.inl (.inr (i6.1,cF)))))
 (fun (b5:Bool × Int)=>⟨[(8,bv b5.1),(9,iv b5.2)],[]⟩) fun b5 =>
 .br b5.1
 (.r 13 (.aj (.o [.cU (dG cN [az])]) (.aj (.o [.cU (kx cN i3.1 [az])]) (.aj (.t (cN.k6 [az])) (.p (uG i3.1.length [az].length 8))))) fun _ =>
 .fin (.inr (i3.1++[az])))
 (.fin (.inr i3.1)))
 (fun (b4:(List Int))=>⟨[(6,ow 100008 b4)],[(100008,cp 3 1 bJ b4)]⟩) fun b4 =>
 .nx 5 7 i3.2 (b4,i3.2+1))
 (.fin (.inl (.inr i3.1))))
 (fun (b2:(List Int))=>⟨[(6,ow 100004 b2)],[(100004,cp 3 1 bJ b2)]⟩) fun b2 =>
 .br (((b2.length:Nat):Int) == 0)
 (.r 15 (.aj (.o [.cU (dG cN [0])]) (.aj (.o [.cU (kx cN b2 [0])]) (.aj (.t (cN.k6 [0])) (.p (uG b2.length [0].length 8))))) fun _ =>
 .fin (b2++[0]))
 (.fin b2)
def tG f day:=(ni f day).val
theorem Br (f:aw) (day:Int):(ni f day).dq (fun (x:(List Int))=>x.length≠0∧((∀ q,q < (au f day).af.length→0≤((au f day).af.getD q default).part∧((au f day).af.getD q default).part < 4)→x=iD f day)):=by
  refine Sk.bh _ ?_
  unfold ni
  simp only [Sk.cK,Sk.aD,reduceCtorEq,ON,kk,kp,rb,AL,aw.Small,ah.Small,maxLen]
  intro x _ hx _
  subst hx
  refine ⟨⟨⟨by omega,rfl⟩,fun i hi=>⟨fun hc=>⟨⟨⟨⟨Nat.zero_le _,⟨False.elim,fun ⟨q,hq,_⟩=>absurd hq (by omega)⟩⟩,fun j hj=>⟨fun hcj y _ hy=>⟨fun h _=>?_,fun h _=>?_⟩,fun hcj=>?_⟩⟩,fun b hb=>⟨fun h _=>?_,fun h=>?_⟩⟩,fun b _ hb _=>?_⟩,fun hc=>?_⟩⟩,fun b hb=>⟨fun h _=>⟨?_,fun hP=>?_⟩,fun h=>⟨?_,fun hP=>?_⟩⟩⟩
  · simp only [LN] at hcj h
    exact ⟨⟨by omega,⟨fun _=>⟨j.2,by omega,h.1.1,hy.symm.trans h.2,h.1.2⟩,fun _=>trivial⟩⟩,by omega⟩
  · simp only [LN] at hcj
    refine ⟨⟨by omega,⟨fun h1=>?_,fun ⟨q,hq,h1,h2,h3⟩=>?_⟩⟩,by omega⟩
    · obtain ⟨q,hq,h1⟩:=hj.2.1 h1
      exact ⟨q,by omega,h1⟩
    · by_cases e:q=j.2
      · subst e
        rw [h1,h3,hy,h2] at h
        simp at h
      · exact hj.2.2 ⟨q,by omega,h1,h2,h3⟩
  · simp only [LN] at hcj
    have e:j.2=(au f day).af.length:=by omega
    rw [Ib,← e]; exact hj.2
  · rw [xE _ _ b.1 hb,h,cond_true,← hi.2]
  · rw [xE _ _ b.1 hb,h,cond_false,← hi.2]
  · simp only [LN] at hc
    exact ⟨⟨by omega,hb⟩,by omega⟩
  · simp only [LN] at hc
    rw [hi.2,show i.2=4 by omega]
  · simp
  · rw [Qe hP hb,h]; rfl
  · simp only [LN] at h
    omega
  · rw [Qe hP hb,h]; rfl

theorem Ic (f:aw) (day:Int):(fun (x:(List Int))=>x.length≠0∧((∀ q,q < (au f day).af.length→0≤((au f day).af.getD q default).part∧((au f day).af.getD q default).part < 4)→x=iD f day)) (tG f day):=have h:=Sk.dc _ (Br f day); h
theorem MQ (f:aw) (day:Int) (bn:f.Small):(ni f day).bq (fun _=>True):=by
  simp only [aw.Small,ah.Small] at bn
  refine Sk.aO _ ?_
  unfold ni
  simp only [Sk.gx,Sk.aD,reduceCtorEq,ON,kk,kp,rb,AL,aw.Small,ah.Small,maxLen]
  have n1:=bn.1
  refine ⟨bn,fun x _ hx _=>?_⟩
  subst hx
  have n2:=(B3 f day).1
  refine ⟨⟨⟨by omega,rfl⟩,fun i hi=>⟨fun hc=>⟨⟨⟨⟨Nat.zero_le _,⟨False.elim,fun ⟨q,hq,_⟩=>absurd hq (by omega)⟩⟩,fun j hj hm=>⟨fun hcj=>⟨?_,fun y _ hy=>⟨fun h _=>⟨?_,?_⟩,fun h _=>⟨?_,?_⟩⟩⟩,fun hcj=>?_⟩⟩,fun b hb=>⟨fun h=>⟨?_,fun _=>?_⟩,fun h=>?_⟩⟩,fun b _ hb _=>⟨?_,?_⟩⟩,fun hc=>?_⟩⟩,fun b hb h=>?_⟩
  · simp only [LN] at hcj
    exact ⟨⟨by omega,by omega⟩,fun _=>⟨by omega,by omega⟩⟩
  · simp only [LN] at hcj
    exact (aq (by omega) (by omega)).trans (by omega)
  · simp only [LN] at hcj h
    exact ⟨⟨by omega,⟨fun _=>⟨j.2,by omega,h.1.1,hy.symm.trans h.2,h.1.2⟩,fun _=>trivial⟩⟩,by omega⟩
  · simp only [LN] at hcj
    exact (aq (by omega) (by omega)).trans (by omega)
  · simp only [LN] at hcj
    refine ⟨⟨by omega,⟨fun h1=>?_,fun ⟨q,hq,h1,h2,h3⟩=>?_⟩⟩,by omega⟩
    · obtain ⟨q,hq,h1⟩:=hj.2.1 h1
      exact ⟨q,by omega,h1⟩
    · by_cases e:q=j.2
      · subst e
        rw [h1,h3,hy,h2] at h
        simp at h
      · exact hj.2.2 ⟨q,by omega,h1,h2,h3⟩
  · simp only [LN] at hcj
    have e:j.2=(au f day).af.length:=by omega
    rw [Ib,← e]; exact hj.2
  · have:=Xg (au f day) i.2
    rw [← hi.2] at this
    simp only [LN]
    omega
  · rw [xE _ _ b.1 hb,h,cond_true,← hi.2]
  · rw [xE _ _ b.1 hb,h,cond_false,← hi.2]
  · simp only [LN] at hc
    exact (aq (by omega) (by omega)).trans (by omega)
  · simp only [LN] at hc
    exact ⟨⟨by omega,hb⟩,by omega⟩
  · simp only [LN] at hc
    rw [hi.2,show i.2=4 by omega]
  · simp only [LN] at h ⊢
    omega

def Em f day:=kp tok mixed Tryz.func25 [av f.cells,iv day] (fun x=>lv bJ x) false (tG f day) (MQ f day) (Br f day)
def wo (l:List Int) (k_:Int):Sk (Bool) :=
 .bind true (fun b1=>k_ ∉ l)
 (.loop (default:Sum (Bool) (Unit)) (fun i2=>i2≤l.length∧∀ q,q < i2→l.getD q default≠k_) (fun i2=>l.length - i2) (0:Nat)
 (fun (i2:Nat)=>⟨[(5,iv ((i2:Nat):Int))],[]⟩) fun i2 =>
 .lt 0 0 i2 l.length
 (.r 4 (.p (bM ((i2:Nat):Int) l.length)) fun _ =>
 .br ((l.getD i2 default) == k_)
 (.fin (.inl (.inl true)))
 (.nx 3 5 i2 (i2+1)))
 (.fin (.inl (.inr ()))))
 (fun (_:Unit)=>⟨[],[]⟩) fun _ =>
 .fin false
def GK l k_:=(wo l k_).val
theorem I8 (l:List Int) (k_:Int):(wo l k_).dq (fun (x:Bool)=>x=true↔k_∈l):=by
  refine Sk.bh _ ?_
  unfold wo
  simp only [Sk.cK,Sk.aD,reduceCtorEq,ON,kk,kp,maxLen]
  refine ⟨⟨⟨Nat.zero_le _,fun q hq=>absurd hq (by omega)⟩,fun i hi=>⟨fun hc _=>⟨fun h=>?_,fun h _=>?_⟩,fun hc=>?_⟩⟩,fun _ hb=>⟨False.elim,hb⟩⟩
  all_goals simp only [LN] at hc
  · refine ⟨fun _=>?_,fun _=>trivial⟩
    simp only [LN] at h
    rw [← h]; exact fX (by omega) _
  · simp only [LN] at h
    exact ⟨⟨by omega,abK hi.2 h⟩,by omega⟩
  · exact abL (fun q hq=>hi.2 q (by omega))

theorem RU (l:List Int) (k_:Int):(fun (x:Bool)=>x=true↔k_∈l) (GK l k_):=have h:=Sk.dc _ (I8 l k_); h
theorem Xi (l:List Int) (k_:Int):(wo l k_).bq (fun _=>True):=by
  refine Sk.aO _ ?_
  unfold wo
  simp only [Sk.gx,Sk.aD,reduceCtorEq,ON,kk,kp,maxLen]
  refine ⟨⟨Nat.zero_le _,fun q hq=>absurd hq (by omega)⟩,fun i hi hm=>⟨fun hc=>⟨?_,fun _ h _=>⟨?_,⟨?_,?_⟩,?_⟩⟩,fun hc=>?_⟩⟩
  all_goals simp only [LN] at hc
  · exact ⟨by omega,by omega⟩
  · exact (aq (by omega) (by omega)).trans (by omega)
  · omega
  · simp only [LN] at h
    exact abK hi.2 h
  · omega
  · exact abL (fun q hq=>hi.2 q (by omega))

def Qf l k_:=kp tok mixed Tryz.func26 [lv bJ l,iv k_] (fun x=>bv x) true (GK l k_) (u0 (Xi l k_)) (I8 l k_)
def oU (f:aw) (sign:Int) (day:Int):Sk (Bool) :=
 .br ((decide (sign < 0))||(decide (sign≥((f.af.length:Nat):Int))))
 (.fin false)
 (.bind true (fun b1=>f.aU.any (fun a:cT=>((a.kind == 7)&&decide (a.day≤day))&&(a.at_ == sign))=false)
 (.loop (default:Sum (Bool) (Unit)) (fun i2=>i2≤f.aU.length∧(f.aU.take i2).any (fun a:cT=>((a.kind == 7)&&decide (a.day≤day))&&(a.at_ == sign))=false) (fun i2=>f.aU.length - i2) (0:Nat)
 (fun (i2:Nat)=>⟨[(7,iv ((i2:Nat):Int))],[]⟩) fun i2=>let aV:=(bM ((i2:Nat):Int) f.aU.length); let az:=(f.aU.getD i2 default); let cF:=(((az.kind) == 7)&&((az.at_) == sign));
 .lt 3 17 i2 f.aU.length
 (.r 6 (.aj (.p aV) (.aj (.wh ((az.kind) == 7) true (.p aV)) (.wh cF true (.p aV)))) fun _ =>
 .br (cF&&(decide ((az.day)≤day)))
 (.fin (.inl (.inl true)))
 (.nx 5 7 i2 (i2+1)))
 (.fin (.inl (.inr ()))))
 (fun (_:Unit)=>⟨[],[]⟩) fun _ =>
 .fin false)
def Xj f sign day:=(oU f sign day).val
theorem MR (f:aw) (sign:Int) (day:Int):(oU f sign day).dq (fun (x:Bool)=>0≤sign∧sign < (f.af.length:Int)→x=Ht (ee f day) sign false):=by
  refine Sk.bh _ ?_
  unfold oU
  simp only [Sk.cK,Sk.aD,reduceCtorEq,ON,kk,kp,maxLen]
  refine ⟨fun hr hs=>?_,fun hr=>⟨⟨⟨Nat.zero_le _,rfl⟩,fun i hi=>⟨fun hc _=>⟨fun h _=>?_,fun h _=>?_⟩,fun hc=>?_⟩⟩,fun _ hb _=>?_⟩⟩
  · simp only [LN] at hr
    omega
  · simp only [LN] at hc
    rw [MO]
    refine (List.any_eq_true.2 ⟨f.aU.getD i default,fX (by omega) _,?_⟩).symm
    rw [← h]; exact Bool.and_right_comm _ _ _
  · simp only [LN] at hc
    refine ⟨⟨by omega,?_⟩,by omega⟩
    rw [GJ _ _ _ (by omega),hi.2,Bool.false_or,← h]; exact Bool.and_right_comm _ _ _
  · simp only [LN] at hc
    have e:i=f.aU.length:=by omega
    have h2:=hi.2
    rw [e,List.take_length] at h2
    exact h2
  · rw [MO]; exact hb.symm

theorem OD (f:aw) (sign:Int) (day:Int):(oU f sign day).bq (fun _=>True):=by
  refine Sk.aO _ ?_
  unfold oU
  simp only [Sk.gx,Sk.aD,reduceCtorEq,ON,kk,kp,maxLen]
  refine fun _=>⟨⟨Nat.zero_le _,rfl⟩,fun i hi hm=>⟨fun hc=>⟨?_,fun _ h _=>⟨?_,⟨?_,?_⟩,?_⟩⟩,fun hc=>?_⟩⟩
  all_goals simp only [LN] at hc
  · exact ⟨⟨by omega,by omega⟩,fun _=>⟨by omega,by omega⟩,fun _=>⟨by omega,by omega⟩⟩
  · exact (aq (by omega) (by omega)).trans (by omega)
  · omega
  · rw [GJ _ _ _ (by omega),hi.2,Bool.false_or,← h]; exact Bool.and_right_comm _ _ _
  · omega
  · have e:i=f.aU.length:=by omega
    have h2:=hi.2
    rw [e,List.take_length] at h2
    exact h2

def AM f sign day:=kp tok mixed Tryz.func102 [av f.cells,iv sign,iv day] (fun x=>bv x) true (Xj f sign day) (u0 (OD f sign day)) (MR f sign day)
def ic (f:aw) (part:Int) (day:Int):Sk ((List Int)) :=
 .r 1 (.o [.cU (dG cN ([]:List Int))]) fun _ =>
 .bind true (fun b1=>b1=((List.range f.af.length).filter (oH f day part)).map fun i=>((i:Nat):Int))
 (.loop (default:Sum ((List Int)) ((List Int))) (fun i2=>i2.2≤f.af.length∧i2.1=((List.range i2.2).filter (oH f day part)).map fun i=>((i:Nat):Int)) (fun i2=>f.af.length - i2.2) ((([]:List Int),0):(List Int) × Nat)
 (fun (i2:(List Int) × Nat)=>⟨[(7,ow 100002 i2.1),(8,iv ((i2.2:Nat):Int))],[(100002,cp 3 1 bJ i2.1)]⟩) fun i2=>let cF:=(f.af.getD i2.2 default); let aV:=((i2.2:Nat):Int); let az:=((((cF.kind) == 2)&&((cF.part) == part))&&(decide ((cF.day)≤day)));
 .lt 3 15 i2.2 f.af.length
 (.r 5 (.p (bM aV f.af.length)) fun _ =>
 .r 6 (.wh az true ((AM f aV day).c)) fun x3 =>
 .br (az&&(!x3))
 (.r 7 (.aj (.o [.cU (dG cN [aV])]) (.aj (.o [.cU (kx cN i2.1 [aV])]) (.aj (.t (cN.k6 [aV])) (.p (uG i2.1.length [aV].length 8))))) fun _ =>
 .r 4 .z fun _ =>
 .wi 8 (aK (aV+1)) ((i2.2+1:Nat):Int) <|
 .fin (.inr (i2.1++[aV],i2.2+1)))
 (.nx 4 8 i2.2 (i2.1,i2.2+1)))
 (.fin (.inl (.inr i2.1))))
 (fun (b1:(List Int))=>⟨[(7,ow 100001 b1)],[(100001,cp 3 1 bJ b1)]⟩) fun b1 =>
 .fin b1
def Ie f part day:=(ic f part day).val
theorem CQ (f:aw) (part:Int) (day:Int):(ic f part day).dq (fun (x:(List Int))=>x=(bo f day part).map (·.1)):=by
  refine Sk.bh _ ?_
  unfold ic
  simp only [Sk.cK,Sk.aD,reduceCtorEq,ON,kk,kp,AM,aw.Small,ah.Small,maxLen]
  intro _
  refine ⟨⟨⟨Nat.zero_le _,rfl⟩,fun i hi=>⟨fun hc _ x _ hx=>⟨fun h _ _=>?_,fun h _=>?_⟩,fun hc=>?_⟩⟩,fun b hb=>hb.trans (abJ f day part).symm⟩
  all_goals simp only [LN] at hc
  · have hx:=hx ⟨by omega,by omega⟩
    have h:oH f day part i.2=true:=by unfold oH; rw [← hx]; exact h
    refine ⟨⟨by omega,?_⟩,by omega⟩
    rw [List.range_succ,List.filter_append,List.map_append,← hi.2,List.filter_cons_of_pos h]; rfl
  · have hx:=hx ⟨by omega,by omega⟩
    have h:oH f day part i.2=false:=by unfold oH; rw [← hx]; exact h
    refine ⟨⟨by omega,?_⟩,by omega⟩
    rw [List.range_succ,List.filter_append,List.map_append,← hi.2,List.filter_cons_of_neg (by simp [h])]; simp
  · have e:i.2=f.af.length:=by omega
    rw [← e]; exact hi.2

theorem D8 (f:aw) (part:Int) (day:Int) (hf:f.Small):(ic f part day).bq (fun _=>True):=by
  simp only [aw.Small,ah.Small] at hf
  refine Sk.aO _ ?_
  unfold ic
  simp only [Sk.gx,Sk.aD,reduceCtorEq,ON,kk,kp,AM,aw.Small,ah.Small,maxLen]
  intro _
  have n1:=hf.1
  refine ⟨⟨Nat.zero_le _,rfl⟩,fun i hi hm=>⟨fun hc=>⟨?_,fun _ x _ hx=>⟨fun h=>⟨?_,fun _ _=>⟨?_,?_⟩⟩,fun h _=>⟨?_,?_⟩⟩⟩,fun hc=>?_⟩⟩
  all_goals simp only [LN] at hc
  · exact ⟨by omega,by omega⟩
  · simp only [LN]
    have:=List.length_filter_le (oH f day part) (List.range i.2)
    have h2:=congrArg List.length hi.2
    rw [List.length_map] at h2
    rw [List.length_range] at this
    omega
  · exact (aq (by omega) (by omega)).trans (by omega)
  · have hx:=hx ⟨by omega,by omega⟩
    have h:oH f day part i.2=true:=by unfold oH; rw [← hx]; exact h
    refine ⟨⟨by omega,?_⟩,by omega⟩
    rw [List.range_succ,List.filter_append,List.map_append,← hi.2,List.filter_cons_of_pos h]; rfl
  · exact (aq (by omega) (by omega)).trans (by omega)
  · have hx:=hx ⟨by omega,by omega⟩
    have h:oH f day part i.2=false:=by unfold oH; rw [← hx]; exact h
    refine ⟨⟨by omega,?_⟩,by omega⟩
    rw [List.range_succ,List.filter_append,List.map_append,← hi.2,List.filter_cons_of_neg (by simp [h])]; simp
  · have e:i.2=f.af.length:=by omega
    rw [← e]; exact hi.2

def pR f part day:=kp tok mixed Tryz.func55 [av f.cells,iv part,iv day] (fun x=>lv bJ x) false (Ie f part day) (D8 f part day) (CQ f part day)
def uX (before:Int) (flags:Int):Sk (Int) :=
 .br (((dh .i64 flags 2) != 0)||(before != 0))
 (.fin 1)
 (.br ((dh .i64 flags 4) != 0)
 (.fin 2)
 (.fin 0))
def ZW before flags:=(uX before flags).val
theorem RV (before:Int) (flags:Int):(uX before flags).bq (fun _=>True):=by
  unfold uX
  exact mP

def CR before flags:=kk tok mixed Tryz.func56 [iv before,iv flags] (fun x=>iv x) true (uX before flags) (ZW before flags) (u0 (RV before flags))
def xF (f:aw) (at_:Int) (day:Int):Sk (Bool) :=
 .bt
 (.loop (default:Sum (Bool) (Unit)) (fun i2=>i2≤f.aU.length) (fun i2=>f.aU.length - i2) (0:Nat)
 (fun (i2:Nat)=>⟨[(7,iv ((i2:Nat):Int))],[]⟩) fun i2=>let az:=(f.aU.getD i2 default);
 .lt 3 17 i2 f.aU.length
 (.r 4 (.p (bM ((i2:Nat):Int) f.aU.length)) fun _ =>
 .br ((((((az.kind) == 1)||((az.kind) == 3))||((az.kind) == 4))&&(decide ((az.day)≤day)))&&(decide ((az.day) < at_)))
 (.fin (.inl (.inl true)))
 (.nx 3 7 i2 (i2+1)))
 (.fin (.inl (.inr ()))))
 (fun (_:Unit)=>⟨[],[]⟩) fun _ =>
 .fin false
def abM f at_ day:=(xF f at_ day).val
theorem U0 (f:aw) (at_:Int) (day:Int):(xF f at_ day).bq (fun _=>True):=by
  unfold xF
  exact mH

def E7 f at_ day:=kk tok mixed Tryz.func57 [av f.cells,iv at_,iv day] (fun x=>bv x) true (xF f at_ day) (abM f at_ day) (u0 (U0 f at_ day))
def re (f:aw) (part:Int) (day:Int):Sk (Bk) :=
 .r 2 ((pR f part day).c) fun x1 =>
 .bind true (fun b2=>b2.1=se f x1 f.aM.fY)
 (.loop (default:Sum (Bk) ((List Int) × Int × Int × Int × (List Int))) (fun i3=>i3.1≤x1.length∧(i3.2.2.2.1 = -1→i3.2.1++se f (x1.drop i3.1) i3.2.2.1=se f x1 f.aM.fY)∧(i3.2.2.2.1≠-1→i3.2.1=se f x1 f.aM.fY)∧i3.2.1.length≤i3.1∧i3.2.2.2.2.2.length≤i3.1) (fun i3=>x1.length - i3.1) ((0,[],f.aM.fY,(-1),0,[]):Nat × (List Int) × Int × Int × Int × (List Int))
 (fun (i3:Nat × (List Int) × Int × Int × Int × (List Int))=>⟨[(9,iv ((i3.1:Nat):Int))],[(100004,cp 3 1 bJ i3.2.1),(100005,cp 3 1 bJ i3.2.2.2.2.2),(7,.box ([ow 100004 i3.2.1]++[iv i3.2.2.1,iv i3.2.2.2.1,bv false,iv i3.2.2.2.2.1,ow 100005 i3.2.2.2.2.2]))]⟩) fun i3=>let kV:=(cN.k6 [x1.getD i3.1 default]); let eG:=(dG cN [x1.getD i3.1 default]); let aV:=((i3.1:Nat):Int); let cF:=(bM aV x1.length); let az:=(f.af.getD ((x1.getD i3.1 default).toNat) default);
 .Eb 8 0 x1.length <|
 .br ((decide (aV < ((x1.length:Nat):Int)))&&(i3.2.2.2.1 == (-1)))
 (.r 6 (.aj (.p cF) (.p (bM (x1.getD i3.1 default) f.af.length))) fun _ =>
 .br ((i3.2.2.1 != (-1))&&((az.ja) != i3.2.2.1))
 (.r 8 (.p cF) fun _ =>
 .nx 5 9 i3.1 (i3.1+1,i3.2.1,i3.2.2.1,x1.getD i3.1 default,i3.2.2.2.2.1,i3.2.2.2.2.2))
 (.r 9 (.aj (.p cF) (.aj (.o [.cU eG]) (.aj (.o [.cU (kx cN i3.2.1 [x1.getD i3.1 default])]) (.aj (.t kV) (.p (uG i3.2.1.length [x1.getD i3.1 default].length 8)))))) fun _ =>
 .r 11 ((CR i3.2.2.2.2.1 (az.flags)).c) fun x4 =>
 .r 12 ((E7 f (az.day) day).c) fun x5 =>
 .br x5
 (.r 13 (.aj (.p cF) (.aj (.o [.cU eG]) (.aj (.o [.cU (kx cN i3.2.2.2.2.2 [x1.getD i3.1 default])]) (.aj (.t kV) (.p (uG i3.2.2.2.2.2.length [x1.getD i3.1 default].length 8)))))) fun _ =>
 .r 5 .z fun _ =>
 .wi 9 (aK (aV+1)) ((i3.1+1:Nat):Int) <|
 .fin (.inr (i3.1+1,i3.2.1++[x1.getD i3.1 default],az.cr,i3.2.2.2.1,x4,i3.2.2.2.2.2++[x1.getD i3.1 default])))
 (.r 5 .z fun _ =>
 .wi 9 (aK (aV+1)) ((i3.1+1:Nat):Int) <|
 .fin (.inr (i3.1+1,i3.2.1++[x1.getD i3.1 default],az.cr,i3.2.2.2.1,x4,i3.2.2.2.2.2)))))
 (.fin (.inl (.inr (i3.2.1,i3.2.2.1,i3.2.2.2.1,i3.2.2.2.2.1,i3.2.2.2.2.2)))))
 (fun (b2:(List Int) × Int × Int × Int × (List Int))=>⟨[],[(100002,cp 3 1 bJ b2.1),(100003,cp 3 1 bJ b2.2.2.2.2),(7,.box ([ow 100002 b2.1]++[iv b2.2.1,iv b2.2.2.1,bv false,iv b2.2.2.2.1,ow 100003 b2.2.2.2.2]))]⟩) fun b2 =>
 .fin ({ af:=b2.1,cL:=b2.2.1,broken:=b2.2.2.1,Ru:=b2.2.1 == (-1),YD:=b2.2.2.2.1,late:=b2.2.2.2.2 }:Bk)
def kR f part day:=(re f part day).val
theorem Eo (f:aw) (part:Int) (day:Int):(re f part day).dq (fun (x:Bk)=>x.af=(jJ f part day).af):=by
  refine Sk.bh _ ?_
  unfold re
  simp only [Sk.cK,Sk.aD,reduceCtorEq,ON,kk,kp,pR,E7,CR,aw.Small,ah.Small,maxLen]
  intro x _ hx
  have hm:=fun i hi=>UZ hx i hi
  refine ⟨⟨⟨Nat.zero_le _,rfl,fun h=>absurd rfl h,Nat.le_refl _⟩,fun i hi=>⟨fun hc _=>?_,fun hc=>?_⟩⟩,fun b hb=>?_⟩
  · simp only [LN] at hc
    have hi1:i.1 < x.length:=by omega
    have h2:=hi.2.1 hc.2
    rw [I7 f x i.1 _ hi1] at h2
    have hr:=hm i.1 hi1
    refine ⟨fun hb _ _=>?_,fun hb _ a _ l _=>⟨fun _ _ _=>?_,fun _ _=>?_⟩⟩
    · rw [hb,cond_true,List.append_nil] at h2
      exact ⟨⟨by omega,fun e=>absurd e (by omega),fun _=>h2,by omega,by omega⟩,by omega⟩
    · rw [hb,cond_false] at h2
      simp only [LN]
      exact ⟨⟨by omega,fun _=>by rw [List.append_assoc]; exact h2,fun e=>absurd hc.2 e,by omega,by omega⟩,by omega⟩
    · rw [hb,cond_false] at h2
      simp only [LN]
      exact ⟨⟨by omega,fun _=>by rw [List.append_assoc]; exact h2,fun e=>absurd hc.2 e,by omega,by omega⟩,by omega⟩
  · simp only [LN] at hc
    by_cases e:i.2.2.2.1 = -1
    · have h2:=hi.2.1 e
      rw [show i.1=x.length by omega,List.drop_length] at h2
      rw [← h2]; simp [se]
    · exact hi.2.2.1 e
  · rw [hb,UY,← hx]

theorem MS (f:aw) (part:Int) (day:Int):(fun (x:Bk)=>x.af=(jJ f part day).af) (kR f part day):=have h:=Sk.dc _ (Eo f part day); h
theorem RW (f:aw) (part:Int) (day:Int) (hf:f.Small):(re f part day).bq (fun _=>True):=by
  simp only [aw.Small,ah.Small] at hf
  refine Sk.aO _ ?_
  unfold re
  simp only [Sk.gx,Sk.aD,reduceCtorEq,ON,kk,kp,pR,E7,CR,aw.Small,ah.Small,maxLen]
  refine ⟨hf,fun x _ hx=>?_⟩
  have n1:=hf.1
  have hl:x.length≤f.af.length:=by rw [hx,List.length_map]; exact Mb f day part
  have hm:=fun i hi=>UZ hx i hi
  refine ⟨⟨Nat.zero_le _,rfl,fun h=>absurd rfl h,Nat.le_refl _⟩,fun i hi hm2=>⟨fun hc=>?_,fun hc=>?_⟩⟩
  · simp only [LN] at hc
    have hi1:i.1 < x.length:=by omega
    have h2:=hi.2.1 hc.2
    rw [I7 f x i.1 _ hi1] at h2
    have hr:=hm i.1 hi1
    have w1:aK ((i.1:Int)+1)=((i.1+1:Nat):Int):=(aq (by omega) (by omega)).trans (by omega)
    have ix:0≤(i.1:Int)∧(i.1:Int) < (x.length:Int):=⟨by omega,by omega⟩
    refine ⟨⟨ix,hr⟩,fun _=>⟨fun hb=>⟨ix,fun _ _=>⟨w1,?_⟩⟩,fun hb=>⟨⟨ix,?_⟩,fun _ a _ l _=>⟨fun _=>⟨⟨ix,?_⟩,fun _ _=>⟨w1,?_⟩⟩,fun _ _=>⟨w1,?_⟩⟩⟩⟩⟩
    · rw [hb,cond_true,List.append_nil] at h2
      exact ⟨⟨by omega,fun e=>absurd e (by omega),fun _=>h2,by omega,by omega⟩,by omega⟩
    · simp only [LN]
      omega
    · simp only [LN]
      omega
    · rw [hb,cond_false] at h2
      simp only [LN]
      exact ⟨⟨by omega,fun _=>by rw [List.append_assoc]; exact h2,fun e=>absurd hc.2 e,by omega,by omega⟩,by omega⟩
    · rw [hb,cond_false] at h2
      simp only [LN]
      exact ⟨⟨by omega,fun _=>by rw [List.append_assoc]; exact h2,fun e=>absurd hc.2 e,by omega,by omega⟩,by omega⟩
  · simp only [LN] at hc
    by_cases e:i.2.2.2.1 = -1
    · have h2:=hi.2.1 e
      rw [show i.1=x.length by omega,List.drop_length] at h2
      rw [← h2]; simp [se]
    · exact hi.2.2.1 e

def I9 f part day:=kp tok mixed Tryz.func28 [av f.cells,iv part,iv day] (fun x=>av x.cells) false (kR f part day) (RW f part day) (Eo f part day)
def sV (n:Int):Sk (al) :=
 .fin ({ known:=true,n:=n }:al)
def MT n:=(sV n).val
theorem Ep (n:Int):MT n=({ known:=true,n:=n }:al):=rfl
theorem OE (n:Int):(sV n).bq (fun _=>True):=by
  unfold sV
  exact mP

def fM n:=kk tok mixed Tryz.func213 [iv n] (fun x=>av x.cells) true (sV n) (MT n) (u0 (OE n))
def uY (xY:Bool):Sk (al) :=
 .br xY
 (.r 2 ((fM 1).c) fun x1 =>
 .fin x1)
 (.r 3 ((fM 0).c) fun x2 =>
 .fin x2)
def lX xY:=(uY xY).val
theorem RX (xY:Bool):(uY xY).bq (fun _=>True):=by
  unfold uY
  try simp only [fM,Ep]
  exact xV

def jR xY:=kk tok mixed Tryz.func214 [bv xY] (fun x=>av x.cells) true (uY xY) (lX xY) (u0 (RX xY))
def AN (flags:Int) (one:Int):Sk (Bool) :=
 .fin ((dh .i64 flags one) == one)
def sW flags one:=(AN flags one).val
theorem Xk (flags:Int) (one:Int):sW flags one=((dh .i64 flags one) == one):=rfl
theorem Xl (flags:Int) (one:Int):(AN flags one).bq (fun _=>True):=by
  unfold AN
  exact mP

def zB flags one:=kk tok mixed Tryz.func215 [iv flags,iv one] (fun x=>bv x) true (AN flags one) (sW flags one) (u0 (Xl flags one))
def kS (r:ah) (aL:Int):Sk (Int) :=
 .r 1 ((ar aL 0 (aK (((r.aB.length:Nat):Int) - 1))).c) fun x1 =>
 .br x1
 (.r 2 (.p (bM aL r.aB.length)) fun _ =>
 .fin ((r.aB.getD aL.toNat default).order))
 (.fin (-1))
def iG r aL:=(kS r aL).val
theorem Kf (r:ah) (aL:Int) (hP:r.aB.length≤1000000):(kS r aL).dq (fun (x:Int)=>x=bz r aL):=by
  refine Sk.bh _ ?_
  unfold kS
  simp only [Sk.cK,Sk.aD,reduceCtorEq,ON,kk,kp,ar,aW,forall_eq,aw.Small,ah.Small,maxLen]
  have e:bz r aL=bif !(iP aL r.aB.length) then -1 else (r.aB.getD aL.toNat default).order:=rfl
  have e2:iP aL r.aB.length=(decide (aL≥0)&&decide (aL < (r.aB.length:Int))):=rfl
  rw [e,e2]
  have hw:aK ((r.aB.length:Int) - 1)=(r.aB.length:Int) - 1:=aq (by omega) (by omega)
  rw [hw]
  refine ⟨fun hc _=>?_,fun hc=>?_⟩
  all_goals simp only [LN] at hc
  · have:(!(decide (aL≥0)&&decide (aL < (r.aB.length:Int))))=false:=by simp only [LN]; omega
    rw [this,cond_false]
  · have:(!(decide (aL≥0)&&decide (aL < (r.aB.length:Int))))=true:=by simp only [LN]; omega
    rw [this,cond_true]

theorem sg (r:ah) (aL:Int):(fun (x:Int)=>(r.aB.length≤1000000)→(x=bz r aL)) (iG r aL):=fun hP=>have h:=Sk.dc _ (Kf r aL hP); h
theorem MU (r:ah) (aL:Int) (hr:r.Small):(kS r aL).bq (fun _=>True):=by
  simp only [aw.Small,ah.Small] at hr
  unfold kS
  try simp only [ar,aW,aw.Small,ah.Small]
  exact xV

def eP r aL:=kk tok mixed Tryz.func149 [av r.cells,iv aL] (fun x=>iv x) true (kS r aL) (iG r aL) (MU r aL) (fun (x:Int)=>(r.aB.length≤1000000)→(x=bz r aL)) (sg r aL)
def tH (f:aw) (kind:Int) (at_:Int):Sk (al) :=
 .bt
 (.loop (default:Sum (al) (Unit)) (fun i2=>i2≤f.facts.length) (fun i2=>f.facts.length - i2) (0:Nat)
 (fun (i2:Nat)=>⟨[(7,iv (i2:Int))],[]⟩) fun i2=>let aV:=(f.facts.getD i2 default); let az:=(bM (i2:Int) f.facts.length);
 .lt 3 18 i2 f.facts.length
 (.r 4 (.aj (.p az) (.wh ((aV.kind) == kind) true (.p az))) fun _ =>
 .br (((aV.kind) == kind)&&((aV.at_) == at_))
 (.r 5 (.p az) fun _ =>
 .br ((aV.n) == 0)
 (.fin (.inl (.inl ({ known:=true,n:=0 }:al))))
 (.fin (.inl (.inl ({ known:=true,n:=1 }:al)))))
 (.nx 3 7 i2 (i2+1)))
 (.fin (.inl (.inr ()))))
 (fun (_:Unit)=>⟨[],[]⟩) fun _ =>
 .fin ({ known:=false,n:=0 }:al)
def tI f kind at_:=(tH f kind at_).val
theorem U1 (f:aw) (kind:Int) (at_:Int):(tH f kind at_).bq (fun _=>True):=by
 unfold tH
 exact mH
def si f kind at_:=kk tok mixed Tryz.func216 [av f.cells,iv kind,iv at_] (fun x=>av x.cells) true (tH f kind at_) (tI f kind at_) (u0 (U1 f kind at_))
def xG (r:ah) (c_:cG):Sk ((List al)):=let agO:=((c_.file.af.length:Nat):Int); let agP:=({ known:=false,n:=0 }:al); let q9_:=(c_.file.af.getD c_.sign.toNat default); let rz:=(List.replicate 20 agP);
 .br ((((((decide (c_.sign < 0))||(decide (c_.sign≥agO)))||(decide (c_.cL < (-1))))||(decide (c_.cL≥agO)))||(decide (c_.due < (-1))))||(decide (c_.due > 100000)))
 (.fin [])
 (.r 4 (.p (bM c_.sign c_.file.af.length)) fun _ =>
 .br ((decide ((q9_.day) < 0))||(decide ((q9_.day) > 100000)))
 (.fin [])
 (.r 7 (.aj (.o [.cU (mkC al.E 20 agP)]) (.p (WK (20:Int) 16))) fun _ =>
 .r 8 (.gw ((fM c_.file.aM.sum).c) fun x1=>.aj (.p (bM (0:Int) (rz.length))) (.aj (.o [.cU (j6 al.E rz 0 x1)]) (.p (0 < rz.length)))) fun x1 =>
 .wn 62 rz.length (rz.set 0 x1).length <|
 .r 9 (.gw ((fM c_.file.aM.parts).c) fun x2=>.aj (.p (bM (1:Int) ((rz.set 0 x1).length))) (.aj (.o [.cU (j6 al.E (rz.set 0 x1) 1 x2)]) (.p (1 < (rz.set 0 x1).length)))) fun x2=>let aV:=((rz.set 0 x1).set 1 x2);
 .wn 62 (rz.set 0 x1).length aV.length <|
 .r 10 (.gw ((fM c_.file.aM.aC.kind).c) fun x3=>.aj (.p (bM (2:Int) (aV.length))) (.aj (.o [.cU (j6 al.E aV 2 x3)]) (.p (2 < aV.length)))) fun x3 =>
 .wn 62 aV.length (aV.set 2 x3).length <|
 .r 11 (.gw ((fM c_.file.aM.oz).c) fun x4=>.aj (.p (bM (3:Int) ((aV.set 2 x3).length))) (.aj (.o [.cU (j6 al.E (aV.set 2 x3) 3 x4)]) (.p (3 < (aV.set 2 x3).length)))) fun x4=>let ZX:=((aV.set 2 x3).set 3 x4);
 .wn 62 (aV.set 2 x3).length ZX.length <|
 .r 12 (.gw ((fM (q9_.kind)).c) fun x5=>.aj (.p (bM (4:Int) (ZX.length))) (.aj (.o [.cU (j6 al.E ZX 4 x5)]) (.p (4 < ZX.length)))) fun x5=>let eG:=(ZX.set 4 x5);
 .wn 62 ZX.length eG.length <|
 .r 13 (.gw ((fM c_.gy).c) fun x6=>.aj (.p (bM (5:Int) (eG.length))) (.aj (.o [.cU (j6 al.E eG 5 x6)]) (.p (5 < eG.length)))) fun x6 =>
 .wn 62 eG.length (eG.set 5 x6).length <|
 .bind false (fun _=>True)
 (.br (c_.due != (-1))
 (.fin (.inr (aK ((q9_.day) - c_.due))))
 (.fin (.inr 0)))
 (fun (b7:Int)=>⟨[(8,iv b7)],[]⟩) fun b7 =>
 .r 17 (.gw ((fM b7).c) fun x8=>.aj (.p (bM (6:Int) ((eG.set 5 x6).length))) (.aj (.o [.cU (j6 al.E (eG.set 5 x6) 6 x8)]) (.p (6 < (eG.set 5 x6).length)))) fun x8=>let HA:=((eG.set 5 x6).set 6 x8);
 .wn 62 (eG.set 5 x6).length HA.length <|
 .r 18 (.gw ((jR (decide (b7 > 0))).c) fun x9=>.aj (.p (bM (14:Int) (HA.length))) (.aj (.o [.cU (j6 al.E HA 14 x9)]) (.p (14 < HA.length)))) fun x9 =>
 .wn 62 HA.length (HA.set 14 x9).length <|
 .r 19 (.dep ((zB c_.file.aM.flags 1).c) fun Ju=>.gw ((jR Ju).c) fun VX=>.aj (.p (bM (7:Int) ((HA.set 14 x9).length))) (.aj (.o [.cU (j6 al.E (HA.set 14 x9) 7 VX)]) (.p (7 < (HA.set 14 x9).length)))) fun p34=>let az:=((HA.set 14 x9).set 7 p34.2);
 .wn 62 (HA.set 14 x9).length az.length <|
 .r 20 (.dep ((zB c_.file.aM.flags 2).c) fun ZI=>.gw ((jR ZI).c) fun Gv=>.aj (.p (bM (10:Int) (az.length))) (.aj (.o [.cU (j6 al.E az 10 Gv)]) (.p (10 < az.length)))) fun p33=>let RT:=(az.set 10 p33.2);
 .wn 62 az.length RT.length <|
 .r 21 (.dep ((zB c_.file.aM.flags 4).c) fun x14=>.gw ((jR x14).c) fun x15=>.aj (.p (bM (9:Int) (RT.length))) (.aj (.o [.cU (j6 al.E RT 9 x15)]) (.p (9 < RT.length)))) fun p32=>let ZY:=(RT.set 9 p32.2);
 .wn 62 RT.length ZY.length <|
 .r 22 (.gw ((jR (c_.file.aM.fY == (-1))).c) fun UG=>.aj (.p (bM (8:Int) (ZY.length))) (.aj (.o [.cU (j6 al.E ZY 8 UG)]) (.p (8 < ZY.length)))) fun UG=>let kV:=(ZY.set 8 UG);
 .wn 62 ZY.length kV.length <|
 .r 23 (.dep ((eP r c_.file.aM.aL).c) fun x17=>.dep ((eP r c_.file.aM.rD).c) fun x18=>.gw ((jR (x17 != x18)).c) fun x19=>.aj (.p (bM (11:Int) (kV.length))) (.aj (.o [.cU (j6 al.E kV 11 x19)]) (.p (11 < kV.length)))) fun p31=>let NR:=(kV.set 11 p31.2.2);
 .wn 62 kV.length NR.length <|
 .bt
 (.loop (default:Sum ((List al)) (Bool)) (fun i21=>i21.2≤c_.file.aN.length) (fun i21=>c_.file.aN.length - i21.2) ((false,0):Bool × Nat)
 (fun (i21:Bool × Nat)=>⟨[(9,bv i21.1),(10,iv (i21.2:Int))],[]⟩) fun i21 =>
 .lt 3 16 i21.2 c_.file.aN.length
 (.r 28 (.wh i21.1 false (.p (bM (i21.2:Int) c_.file.aN.length))) fun _ =>
 .r 27 .z fun _ =>
 .wi 10 (aK ((i21.2:Int)+1)) ((i21.2+1:Nat):Int) <|
 .fin (.inr (i21.1||(decide (((c_.file.aN.getD i21.2 default).at_)≤c_.sign)),i21.2+1)))
 (.fin (.inl (.inr i21.1))))
 (fun (b20:Bool)=>⟨[(9,bv b20)],[]⟩) fun b20 =>
 .r 29 (.gw ((jR b20).c) fun Uh=>.aj (.p (bM (12:Int) (NR.length))) (.aj (.o [.cU (j6 al.E NR 12 Uh)]) (.p (12 < NR.length)))) fun Uh =>
 .wn 62 NR.length (NR.set 12 Uh).length <|
 .r 30 (.dep ((zB (q9_.flags) 1).c) fun x23=>.gw ((jR x23).c) fun x24=>.aj (.p (bM (13:Int) ((NR.set 12 Uh).length))) (.aj (.o [.cU (j6 al.E (NR.set 12 Uh) 13 x24)]) (.p (13 < (NR.set 12 Uh).length)))) fun p30=>let cF:=((NR.set 12 Uh).set 13 p30.2);
 .wn 62 (NR.set 12 Uh).length cF.length <|
 .r 32 (.gw ((si c_.file 0 c_.sign).c) fun x25=>.aj (.p (bM (15:Int) (cF.length))) (.aj (.o [.cU (j6 al.E cF 15 x25)]) (.p (15 < cF.length)))) fun x25 =>
 .wn 62 cF.length (cF.set 15 x25).length <|
 .r 33 (.gw ((si c_.file 1 c_.sign).c) fun x26=>.aj (.p (bM (16:Int) ((cF.set 15 x25).length))) (.aj (.o [.cU (j6 al.E (cF.set 15 x25) 16 x26)]) (.p (16 < (cF.set 15 x25).length)))) fun x26=>let ZZ:=((cF.set 15 x25).set 16 x26);
 .wn 62 (cF.set 15 x25).length ZZ.length <|
 .r 34 (.gw ((si c_.file 2 c_.sign).c) fun x27=>.aj (.p (bM (17:Int) (ZZ.length))) (.aj (.o [.cU (j6 al.E ZZ 17 x27)]) (.p (17 < ZZ.length)))) fun x27=>let B2:=(ZZ.set 17 x27);
 .wn 62 ZZ.length B2.length <|
 .r 35 (.gw ((si c_.file 3 (dk c_.cL 0)).c) fun x28=>.aj (.p (bM (18:Int) (B2.length))) (.aj (.o [.cU (j6 al.E B2 18 x28)]) (.p (18 < B2.length)))) fun x28 =>
 .wn 62 B2.length (B2.set 18 x28).length <|
 .r 36 (.gw ((si c_.file 4 (dk c_.cL 0)).c) fun x29=>.aj (.p (bM (19:Int) ((B2.set 18 x28).length))) (.aj (.o [.cU (j6 al.E (B2.set 18 x28) 19 x29)]) (.p (19 < (B2.set 18 x28).length)))) fun x29=>let agQ:=((B2.set 18 x28).set 19 x29);
 .wn 62 (B2.set 18 x28).length agQ.length <|
 .fin agQ))
def GL r c_:=(xG r c_).val
def abN (r:ah) (c:cG) (YI:Int):List al :=
 [⟨true,c.file.aM.sum⟩,⟨true,c.file.aM.parts⟩,⟨true,c.file.aM.aC.kind⟩,⟨true,c.file.aM.oz⟩,⟨true,(c.file.af.getD c.sign.toNat default).kind⟩,⟨true,c.gy⟩,⟨true,YI⟩,
  dr ((dh .i64 c.file.aM.flags 1) != 0),dr (c.file.aM.fY == (-1)),dr ((dh .i64 c.file.aM.flags 4) != 0),dr ((dh .i64 c.file.aM.flags 2) != 0),
  dr (bz r c.file.aM.aL != bz r c.file.aM.rD),dr (fh c.file.aN c),dr ((dh .i64 ((c.file.af.getD c.sign.toNat default).flags) 1) != 0),dr (decide (YI > 0)),
  gH c.file 0 c.sign,gH c.file 1 c.sign,gH c.file 2 c.sign,gH c.file 3 (dk c.cL 0),gH c.file 4 (dk c.cL 0)]
theorem Xm (r:ah) (c:cG):xh r c =
  bif ((((!(lN c.sign ((c.file.af.length:Nat):Int)))||(decide (c.cL < (-1))))||(decide ((dk c.cL 0)≥((c.file.af.length:Nat):Int))))||((c.due != (-1))&&(!(lN c.due 100001)))) then []
  else bif !(lN (c.file.af.getD c.sign.toNat default).day 100001) then []
  else bO (bif c.due != (-1) then .inr (aK ((c.file.af.getD c.sign.toNat default).day - c.due)) else .inr (0:Int)) fun YI=>abN r c YI:=by kernel_rfl
theorem ac9 (n j:Nat):n &&& 2 ^ j=0∨n &&& 2 ^ j=2 ^ j:=by
 cases h:n.testBit j with
 | false =>
  left
  apply Nat.eq_of_testBit_eq
  intro i
  rw [Nat.testBit_and,Nat.testBit_two_pow,Nat.zero_testBit]
  by_cases e:j=i
  ·subst e; simp [h]
  ·simp [e]
 | true =>
  right
  apply Nat.eq_of_testBit_eq
  intro i
  rw [Nat.testBit_and,Nat.testBit_two_pow]
  by_cases e:j=i
  ·subst e; simp [h]
  ·simp [e]
theorem RY (a:Int) (j:Nat) (p:Int) (hp:(BitVec.ofInt 64 p).toNat=2 ^ j) (h0:IntKind.i64.wrap (((2 ^ j:Nat)):Int)=p):dh .i64 a p=0∨dh .i64 a p=p:=by
 unfold dh
 have e:(BitVec.ofInt IntKind.i64.bits a &&& BitVec.ofInt IntKind.i64.bits p).toNat=(BitVec.ofInt 64 a).toNat &&& 2 ^ j:=by
  rw [BitVec.toNat_and]; show _ &&& (BitVec.ofInt 64 p).toNat=_; rw [hp]; rfl
 rw [e]
 rcases ac9 (BitVec.ofInt 64 a).toNat j with h | h <;> rw [h]
 ·left; rfl
 ·right; exact h0
theorem Xn {a p:Int} (hp:p≠0) (h:dh .i64 a p=0∨dh .i64 a p=p):sW a p=(dh .i64 a p != 0):=by
 show (dh .i64 a p == p)=(dh .i64 a p != 0)
 rcases h with h | h
 ·rw [h]
  have:((0:Int) == p)=false:=by rw [beq_eq_false_iff_ne]; exact fun e=>hp e.symm
  rw [this]; rfl
 ·rw [h]
  have:(p != 0)=true:=by rw [bne_iff_ne]; exact hp
  rw [this,beq_self_eq_true]
theorem agR (a:Int):sW a 1=(dh .i64 a 1 != 0):=Xn (by decide) (RY a 0 1 rfl rfl)
theorem aiK (a:Int):sW a 2=(dh .i64 a 2 != 0):=Xn (by decide) (RY a 1 2 rfl rfl)
theorem aiL (a:Int):sW a 4=(dh .i64 a 4 != 0):=Xn (by decide) (RY a 2 4 rfl rfl)
theorem Xo (b:Bool):lX b=dr b:=by cases b <;> rfl
def Ig (kind at_:Int) (x:Fact) (s:Unit):al ⊕ Unit:=bif (x.kind == kind)&&(x.at_ == at_) then .inl (bif x.n == 0 then ⟨true,0⟩ else ⟨true,1⟩) else .inr ()
theorem RZ (f:aw) (kind at_:Int):tI f kind at_=gH f kind at_:=by
 rw [Re]
 simp only [tI,tH,Sk.cz,Sk.cY,Sk.ct,Sk.bK,Sk.cE,Sk.cV,Sk.bg]
 refine (bD f.facts (fun s i=>i) (Ig kind at_) id _ (fun s i hi=>?_) (fun s=>?_) (by simp) ()).trans ?_
 ·rw [decide_eq_true (by omega),cond_true]
  unfold Ig
  cases (((f.facts.getD i default).kind == kind)&&((f.facts.getD i default).at_ == at_)) with
  | false=>rfl
  | true=>cases ((f.facts.getD i default).n == 0) <;> rfl
 ·rw [decide_eq_false (by omega),cond_false]
 ·congr 1
  funext x s
  unfold Ig kA
  have:(bif x.n == 0 then (⟨true,0⟩:al) else ⟨true,1⟩)=dr (x.n != 0):=by
   unfold bne
   cases (x.n == 0) <;> rfl
  rw [this]
def ae2 (c:cG) (k:Bool→List al):List al :=
 bO (iter (fun i:Bool × Nat=>bif decide (((i.2:Nat):Int) < ((c.file.aN.length:Nat):Int)) then (Sum.inr (i.1||(decide (((c.file.aN.getD i.2 default).at_)≤c.sign)),i.2+1):(Sum (List al) Bool) ⊕ (Bool × Nat)) else .inl (.inr i.1)) default (c.file.aN.length - 0+1) (false,0)) k
def abO (c:cG):Bool:=c.file.aN.foldl (fun s x=>s||decide (x.at_≤c.sign)) false
theorem ada (c:cG) (k:Bool→List al):ae2 c k=k (abO c):=by
 unfold ae2 abO
 refine (bD c.file.aN (fun s i=>(s,i)) (fun x s=>.inr (s||decide (x.at_≤c.sign))) id k (fun s i hi=>?_) (fun s=>?_) (by simp) false).trans ?_
 ·simp only
  rw [decide_eq_true (by omega),cond_true]
 ·simp only
  rw [decide_eq_false (by omega),cond_false]
  rfl
 ·rw [jm]; rfl
theorem Qg {α:Type} (p:α→Bool):∀ (l:List α) (b:Bool),l.foldl (fun s x=>s||p x) b=(b||l.any p)
 | [],b=>by simp
 | x :: r,b=>by simp only [List.foldl_cons,List.any_cons]; rw [Qg p r,Bool.or_assoc]
theorem abP (c:cG):abO c=fh c.file.aN c:=by
 have hp:fh c.file.aN c=true↔∃ q,q < c.file.aN.length∧eM (c.file.aN.getD q default) c=true:=tZ c.file.aN c
 unfold abO
 rw [Qg,Bool.false_or,Bool.eq_iff_iff,hp,List.any_eq_true]
 constructor
 ·rintro ⟨x,hx,h⟩
  obtain ⟨q,hq,e⟩:=List.getElem_of_mem hx
  refine ⟨q,hq,?_⟩
  have:c.file.aN.getD q default=x:=by simp [List.getD,hq,e]
  rw [this]; exact h
 ·rintro ⟨q,hq,h⟩
  exact ⟨_,fX hq default,h⟩
def abQ (r:ah) (c:cG) (YI:Int) (alt:Bool):List al :=
 [⟨true,c.file.aM.sum⟩,⟨true,c.file.aM.parts⟩,⟨true,c.file.aM.aC.kind⟩,⟨true,c.file.aM.oz⟩,⟨true,(c.file.af.getD c.sign.toNat default).kind⟩,⟨true,c.gy⟩,⟨true,YI⟩,
  lX (sW c.file.aM.flags 1),lX (c.file.aM.fY == (-1)),lX (sW c.file.aM.flags 4),lX (sW c.file.aM.flags 2),
  lX (iG r c.file.aM.aL != iG r c.file.aM.rD),lX alt,lX (sW ((c.file.af.getD c.sign.toNat default).flags) 1),lX (decide (YI > 0)),
  tI c.file 0 c.sign,tI c.file 1 c.sign,tI c.file 2 c.sign,tI c.file 3 (dk c.cL 0),tI c.file 4 (dk c.cL 0)]
theorem OG (r:ah) (c:cG):GL r c =
  bif ((((((decide (c.sign < 0))||(decide (c.sign≥((c.file.af.length:Nat):Int))))||(decide (c.cL < (-1))))||(decide (c.cL≥((c.file.af.length:Nat):Int))))||(decide (c.due < (-1))))||(decide (c.due > 100000))) then []
  else bif ((decide (((c.file.af.getD c.sign.toNat default).day) < 0))||(decide (((c.file.af.getD c.sign.toNat default).day) > 100000))) then []
  else bO (bif c.due != (-1) then .inr (aK ((c.file.af.getD c.sign.toNat default).day - c.due)) else .inr (0:Int)) fun YI=>ae2 c fun alt=>abQ r c YI alt:=by kernel_rfl
theorem Xp (r:ah) (c:cG) (YI:Int) (hr:r.aB.length≤1000000):abQ r c YI (abO c)=abN r c YI:=by
 have ho:∀ x,iG r x=bz r x:=fun x=>sg r x hr
 unfold abQ abN
 rw [ho,ho,abP,agR,agR,aiK,aiL]
 simp only [Xo,RZ]
theorem R0 (r:ah) (c:cG) (hr:r.aB.length≤1000000):GL r c=xh r c:=by
 rw [OG,Xm]
 have hw:∀ i n:Int,lN i n=(decide (i≥0)&&decide (i < n)):=fun _ _=>rfl
 rw [hw,hw,hw]
 have hm:dk c.cL 0=if c.cL < 0 then 0 else c.cL:=by unfold dk; (repeat' split) <;> omega
 by_cases h1:(0≤c.sign∧c.sign < (c.file.af.length:Int))∧(-1≤c.cL∧c.cL < (c.file.af.length:Int))∧(-1≤c.due∧c.due≤100000)
 ·have a1:((((((decide (c.sign < 0))||(decide (c.sign≥((c.file.af.length:Nat):Int))))||(decide (c.cL < (-1))))||(decide (c.cL≥((c.file.af.length:Nat):Int))))||(decide (c.due < (-1))))||(decide (c.due > 100000)))=false:=by
   simp only [LN]; omega
  have a2:((((!(decide (c.sign≥0)&&decide (c.sign < ((c.file.af.length:Nat):Int))))||(decide (c.cL < (-1))))||(decide ((dk c.cL 0)≥((c.file.af.length:Nat):Int))))||((c.due != (-1))&&(!(decide (c.due≥0)&&decide (c.due < 100001)))))=false:=by
   rw [hm]; simp only [LN]; split <;> omega
  rw [a1,a2,cond_false,cond_false]
  by_cases h2:0≤(c.file.af.getD c.sign.toNat default).day∧(c.file.af.getD c.sign.toNat default).day≤100000
  ·have b1:((decide (((c.file.af.getD c.sign.toNat default).day) < 0))||(decide (((c.file.af.getD c.sign.toNat default).day) > 100000)))=false:=by simp only [LN]; omega
   have b2:(!(decide ((c.file.af.getD c.sign.toNat default).day≥0)&&decide ((c.file.af.getD c.sign.toNat default).day < 100001)))=false:=by simp only [LN]; omega
   rw [b1,b2,cond_false,cond_false]
   congr 1
   funext YI
   rw [ada,Xp r c YI hr]
  ·have b1:((decide (((c.file.af.getD c.sign.toNat default).day) < 0))||(decide (((c.file.af.getD c.sign.toNat default).day) > 100000)))=true:=by simp only [LN]; omega
   have b2:(!(decide ((c.file.af.getD c.sign.toNat default).day≥0)&&decide ((c.file.af.getD c.sign.toNat default).day < 100001)))=true:=by simp only [LN]; omega
   rw [b1,b2,cond_true,cond_true]
 ·have a1:((((((decide (c.sign < 0))||(decide (c.sign≥((c.file.af.length:Nat):Int))))||(decide (c.cL < (-1))))||(decide (c.cL≥((c.file.af.length:Nat):Int))))||(decide (c.due < (-1))))||(decide (c.due > 100000)))=true:=by
   simp only [LN]; omega
  have a2:((((!(decide (c.sign≥0)&&decide (c.sign < ((c.file.af.length:Nat):Int))))||(decide (c.cL < (-1))))||(decide ((dk c.cL 0)≥((c.file.af.length:Nat):Int))))||((c.due != (-1))&&(!(decide (c.due≥0)&&decide (c.due < 100001)))))=true:=by
   rw [hm]; simp only [LN]; split <;> omega
  rw [a1,a2,cond_true,cond_true]
theorem U2 (r:ah) (c_:cG) (aZ:r.Small):(xG r c_).bq (fun _=>True):=by
 refine Sk.aO _ ?_
 unfold xG
 simp only [Sk.gx,Sk.aD,reduceCtorEq,ON,kk,kp,eP,si,zB,fM,jR,Xk,Ep,forall_eq,maxLen]
 simp only [List.length_set,List.length_replicate]
 all_goals (repeat' first | assumption | (apply And.intro) | (intro h))
 all_goals first | trivial | assumption | omega | ((try simp only [LN] at *) <;> first | omega | (refine (aq ?_ ?_).trans ?_ <;> omega) | (simp (disch:=omega) only [aq] at *; omega) | (grind) | (simp_all; done) | (simp_all; omega))
def MV r c_:=kk tok mixed Tryz.func157 [av r.cells,av c_.cells] (fun x=>lv al.cells x) false (xG r c_) (GL r c_) (U2 r c_)
def uZ (r:ah) (c_:cG):Sk ((List al)) :=
 .r 1 ((rb c_.file c_.day).c) fun x1 =>
 .r 2 ((MV r ({ file:=x1,sign:=c_.sign,cL:=c_.cL,gy:=c_.gy,due:=c_.due,day:=c_.day }:cG)).c) fun x2 =>
 .fin x2
def lY r c_:=(uZ r c_).val
theorem AO (r:ah) (c:cG) (hr:r.aB.length≤1000000):lY r c=(eO r c).2:=by
 have e:lY r c=GL r ⟨ui c.file c.day,c.sign,c.cL,c.gy,c.due,c.day⟩:=rfl
 have ea:ui c.file c.day=au c.file c.day:=CP c.file c.day
 rw [e,ea,R0 _ _ hr]
 rfl
theorem R1 (r:ah) (c_:cG) (lL:c_.file.Small) (aZ:r.Small):(uZ r c_).bq (fun _=>True):=by
 unfold uZ
 try simp only [rb,MV]
 exact mH
def xH r c_:=kk tok mixed Tryz.func111 [av r.cells,av c_.cells] (fun x=>lv al.cells x) false (uZ r c_) (lY r c_) (u2 (R1 r c_))
def sX (r:ah) (ai:Int) (c_:cG):Sk ((List Int)):=let eG:=(c_.file.af.getD c_.sign.toNat default); let cF:=(List.replicate 5 (0:Int));
 .r 1 ((xH r c_).c) fun x1 =>
 .br (((((x1.length:Nat):Int) == 0)||(decide (ai < 0)))||(decide (ai≥((r.ak.length:Nat):Int))))
 (.fin [])
 (.r 3 (.p (bM c_.sign c_.file.af.length)) fun _ =>
 .br ((decide ((eG.ja) < 0))||(decide ((eG.ja)≥((r.bu.length:Nat):Int))))
 (.fin [])
 (.r 6 (.aj (.o [.cU (mkC cN 5 0)]) (.p (WK (5:Int) 8))) fun _ =>
 .r 7 (.aj (.p (bM (0:Int) (cF.length))) (.aj (.o [.cU (j6 cN cF 0 ai)]) (.p (0 < cF.length)))) fun _ =>
 .wn 44 cF.length (cF.set 0 ai).length <|
 .r 8 (.gw ((eP r (eG.aL)).c) fun x2=>.aj (.p (bM (1:Int) ((cF.set 0 ai).length))) (.aj (.o [.cU (j6 cN (cF.set 0 ai) 1 x2)]) (.p (1 < (cF.set 0 ai).length)))) fun x2=>let az:=((cF.set 0 ai).set 1 x2);
 .wn 44 (cF.set 0 ai).length az.length <|
 .r 9 (.gw ((eP r c_.file.aM.rD).c) fun x3=>.aj (.p (bM (2:Int) (az.length))) (.aj (.o [.cU (j6 cN az 2 x3)]) (.p (2 < az.length)))) fun x3 =>
 .wn 44 az.length (az.set 2 x3).length <|
 .r 10 (.gw ((eP r c_.file.aM.aL).c) fun x4=>.aj (.p (bM (3:Int) ((az.set 2 x3).length))) (.aj (.o [.cU (j6 cN (az.set 2 x3) 3 x4)]) (.p (3 < (az.set 2 x3).length)))) fun x4=>let aV:=((az.set 2 x3).set 3 x4);
 .wn 44 (az.set 2 x3).length aV.length <|
 .r 11 (.aj (.p (bM (eG.ja) r.bu.length)) (.gw ((eP r ((r.bu.getD ((eG.ja).toNat) default).aL)).c) fun x5=>.aj (.p (bM (4:Int) (aV.length))) (.aj (.o [.cU (j6 cN aV 4 x5)]) (.p (4 < aV.length))))) fun x5 =>
 .wn 44 aV.length (aV.set 4 x5).length <|
 .bt
 (.loop (default:Sum ((List Int)) (Unit)) (fun i7=>i7≤(aV.set 4 x5).length) (fun i7=>(aV.set 4 x5).length - i7) (0:Nat)
 (fun (i7:Nat)=>⟨[(9,iv (i7:Int))],[]⟩) fun i7 =>
 .lt 8 0 i7 ((aV.set 4 x5).length)
 (.r 15 (.aj (.p (bM (i7:Int) ((aV.set 4 x5).length))) (.p (i7 < (aV.set 4 x5).length))) fun _ =>
 .br (decide (((aV.set 4 x5).getD i7 default) < 0))
 (.fin (.inl (.inl [])))
 (.nx 14 9 i7 (i7+1)))
 (.fin (.inl (.inr ()))))
 (fun (_:Unit)=>⟨[],[]⟩) fun _ =>
 .fin (aV.set 4 x5)))
def dR r ai c_:=(sX r ai c_).val
theorem yA (l:List Int) (v:Int):bP l v=true↔v∈l:=by
 have hp:bP l v=true↔∃ q,q < l.length∧(l.getD q default == v)=true:=mS l v
 rw [hp]
 constructor
 ·rintro ⟨q,hq,h⟩
  rw [beq_iff_eq] at h
  rw [← h]
  exact fX hq _
 ·intro h
  obtain ⟨q,hq,e⟩:=List.getElem_of_mem h
  exact ⟨q,hq,by simp [List.getD,hq,e]⟩
theorem U3 {r:ah} {c:cG} (hr:r.aB.length≤1000000) (h:(lY r c).length≠0):0≤c.sign∧c.sign < ((au c.file c.day).af.length:Int)∧c.sign < (c.file.af.length:Int)∧(au c.file c.day).af.getD c.sign.toNat default=c.file.af.getD c.sign.toNat default:=by
 rw [AO r c hr] at h
 have hp:(eO r c).2=[]∨((eO r c).2.length=20∧0≤(eO r c).1.sign∧(eO r c).1.sign < ((eO r c).1.file.af.length:Int)):=Ui r c
 rcases hp with hp | hp
 ·rw [hp] at h; exact absurd rfl h
 ·have e1:(eO r c).1.sign=c.sign:=rfl
  have e2:(eO r c).1.file=au c.file c.day:=rfl
  rw [e1,e2] at hp
  have es:(au c.file c.day).af=c.file.af.takeWhile (fun s=>decide (s.day≤c.day)):=by rw [eW]
  have:=vC (fun s:Sign=>decide (s.day≤c.day)) c.file.af c.sign.toNat (by rw [← es]; omega)
  rw [es] at hp ⊢
  exact ⟨hp.2.1,hp.2.2,by omega,this.1⟩
def u1 (r:ah) (fo:Int) (s:Sign) (b:jX):List Int:=[fo,bz r s.aL,bz r b.rD,bz r b.aL,bz r (r.bu.getD s.ja.toNat default).aL]
theorem Z0 (r:ah) (fo:Int) (c:cG):gh r fo c=bif ((((decide (((c.file.af.getD c.sign.toNat default).ja) < 0))||(decide (((c.file.af.getD c.sign.toNat default).ja)≥((r.bu.length:Nat):Int))))||(decide (fo < 0)))||(decide (fo≥((r.ak.length:Nat):Int)))) then [] else
  bif bP (u1 r fo (c.file.af.getD c.sign.toNat default) c.file.aM) (-1) then [] else u1 r fo (c.file.af.getD c.sign.toNat default) c.file.aM:=by kernel_rfl
def R2 (r:ah) (fo:Int) (s:Sign) (b:jX):List Int:=[fo,iG r s.aL,iG r b.rD,iG r b.aL,iG r (r.bu.getD s.ja.toNat default).aL]
def ae3 (l:List Int):List Int :=
 bO (iter (fun i:Nat=>bif decide (((i:Nat):Int) < ((l.length:Nat):Int)) then (bif decide (l.getD i default < 0) then (.inl (.inl []):(Sum (List Int) Unit) ⊕ Nat) else .inr (i+1)) else .inl (.inr ())) default (l.length - 0+1) 0) (fun _=>l)
theorem adb (l:List Int):ae3 l=bif l.all (fun x=>!(decide (x < 0))) then l else []:=by
 unfold ae3
 refine (bD l (fun (s:Unit) i=>i) (fun x (_:Unit)=>(bif decide (x < 0) then .inl [] else .inr ():List Int ⊕ Unit)) id (fun _=>l) (fun s i hi=>?_) (fun s=>?_) (by simp) ()).trans ?_
 ·rw [decide_eq_true (by omega),cond_true]
  cases decide (l.getD i default < 0) <;> rfl
 ·rw [decide_eq_false (by omega),cond_false]
 ·have key:∀ (m:List Int),walk (fun x (_:Unit)=>(bif decide (x < 0) then .inl [] else .inr ():List Int ⊕ Unit)) (fun _=>l) m ()=bif m.all (fun x=>!(decide (x < 0))) then l else []:=by
   intro m
   induction m with
   | nil=>rfl
   | cons x r ih =>
    simp only [walk,List.all_cons]
    cases decide (x < 0) with
    | true=>rfl
    | false=>exact ih
  exact key l
theorem R3 (r:ah) (fo:Int) (c:cG):dR r fo c=bif ((((((lY r c).length:Nat):Int) == 0)||(decide (fo < 0)))||(decide (fo≥((r.ak.length:Nat):Int)))) then [] else
  bif ((decide (((c.file.af.getD c.sign.toNat default).ja) < 0))||(decide (((c.file.af.getD c.sign.toNat default).ja)≥((r.bu.length:Nat):Int)))) then [] else ae3 (R2 r fo (c.file.af.getD c.sign.toNat default) c.file.aM):=by kernel_rfl
theorem Xq {r:ah} (h:r.LC) (x:Int) : -1≤bz r x:=by
 have e:bz r x=bif !(iP x r.aB.length) then -1 else (r.aB.getD x.toNat default).order:=rfl
 have e2:iP x r.aB.length=(decide (x≥0)&&decide (x < (r.aB.length:Int))):=rfl
 rw [e,e2]
 by_cases c:0≤x∧x < (r.aB.length:Int)
 ·have:(!(decide (x≥0)&&decide (x < (r.aB.length:Int))))=false:=by simp only [LN]; omega
  rw [this,cond_false]
  have:=h x.toNat (by omega)
  omega
 ·have:(!(decide (x≥0)&&decide (x < (r.aB.length:Int))))=true:=by simp only [LN]; omega
  rw [this,cond_true]; exact Int.le_refl _
theorem U4 {r:ah} (hr:r.aB.length≤1000000) (hC:r.LC) (fo:Int) (c:cG):dR r fo c=bif (((eO r c).2.length:Nat):Int) == 0 then [] else gh r fo (eO r c).1:=by
 rw [R3]
 by_cases h0:(lY r c).length=0
 ·have h1:(((lY r c).length:Nat):Int) == 0:=by rw [h0]; rfl
  rw [← AO r c hr,h1]
  rfl
 ·have V6:=U3 hr h0
  have h1:((((lY r c).length:Nat):Int) == 0)=false:=by rw [beq_eq_false_iff_ne]; omega
  rw [← AO r c hr,h1,Bool.false_or,cond_false,Z0]
  have e1:(eO r c).1.sign=c.sign:=rfl
  have e2:(eO r c).1.file=au c.file c.day:=rfl
  have e3:(au c.file c.day).aM=c.file.aM:=by rw [eW]
  rw [e1,e2,e3,V6.2.2.2]
  generalize c.file.af.getD c.sign.toNat default=s
  have ho:∀ x,iG r x=bz r x:=fun x=>sg r x hr
  have ep:R2 r fo s c.file.aM=u1 r fo s c.file.aM:=by unfold R2 u1; simp only [ho]
  rw [ep,adb]
  by_cases hf:0≤fo∧fo < (r.ak.length:Int)
  ·have a1:((decide (fo < 0))||(decide (fo≥((r.ak.length:Nat):Int))))=false:=by simp only [LN]; omega
   rw [Bool.or_assoc,a1,Bool.or_false,cond_false]
   congr 1
   have hg:=Xq hC
   have key:(u1 r fo s c.file.aM).all (fun x=>!(decide (x < 0))) = !(bP (u1 r fo s c.file.aM) (-1)):=by
    have h2:=yA (u1 r fo s c.file.aM) (-1)
    rw [Bool.eq_iff_iff,List.all_eq_true,Bool.not_eq_true',← Bool.not_eq_true,h2]
    constructor
    ·intro h hm
     have:=h _ hm
     simp at this
    ·intro h x hx
     simp only [LN]
     have A9:x≠-1:=fun e=>h (e ▸ hx)
     have : -1≤x:=by
      unfold u1 at hx
      simp only [List.mem_cons,List.mem_nil_iff,or_false] at hx
      rcases hx with rfl | rfl | rfl | rfl | rfl
      ·omega
      ·exact hg _
      ·exact hg _
      ·exact hg _
      ·exact hg _
     omega
   rw [key]
   cases bP (u1 r fo s c.file.aM) (-1) <;> rfl
  ·have a1:((decide (fo < 0))||(decide (fo≥((r.ak.length:Nat):Int))))=true:=by simp only [LN]; omega
   rw [Bool.or_assoc,a1,Bool.or_true]
   rfl
theorem OH (r:ah) (ai:Int) (c_:cG) (lL:c_.file.Small) (aZ:r.Small):(sX r ai c_).bq (fun _=>True):=by
 refine Sk.aO _ ?_
 unfold sX
 simp only [Sk.gx,Sk.aD,reduceCtorEq,ON,kk,kp,eP,xH,maxLen]
 have hn:=aZ.2.1
 refine ⟨⟨lL,aZ⟩,fun x hx hc=>?_⟩
 have V6:=U3 (r:=r) (c:=c_) hn (fun e=>by rw [hx] at hc; rw [e] at hc; simp at hc)
 simp only [List.length_set,List.length_replicate]
 all_goals (repeat' first | assumption | (apply And.intro) | (intro h))
 all_goals first | trivial | assumption | omega | ((try simp only [LN] at *) <;> first | omega | (refine (aq ?_ ?_).trans ?_ <;> omega) | (simp (disch:=omega) only [aq] at *; omega) | (grind) | (simp_all; done) | (simp_all; omega))
def GM r ai c_:=kk tok mixed Tryz.func107 [av r.cells,iv ai,av c_.cells] (fun x=>lv bJ x) false (sX r ai c_) (dR r ai c_) (u2 (OH r ai c_))
def pC (ask:Int):Sk (Bool) :=
 .fin ((decide (ask≥0))&&(decide (ask < 22)))
def rh ask:=(pC ask).val
theorem pD (ask:Int):rh ask=((decide (ask≥0))&&(decide (ask < 22))):=rfl
theorem Kg (ask:Int):(pC ask).bq (fun _=>True):=by
 unfold pC
 exact mP
def iY ask:=kk tok mixed Tryz.func108 [iv ask] (fun x=>bv x) true (pC ask) (rh ask) (u0 (Kg ask))
def oV (r:ah) (places:List Int):Sk (Bool) :=
 .bt
 (.loop (default:Sum (Bool) (Unit)) (fun i2=>i2≤places.length) (fun i2=>places.length - i2) (0:Nat)
 (fun (i2:Nat)=>⟨[(5,iv (i2:Int))],[]⟩) fun i2 =>
 .lt 1 0 i2 places.length
 (.r 4 (.aj (.p (bM (i2:Int) places.length)) ((ar (places.getD i2 default) 0 (aK (((r.ak.length:Nat):Int) - 1))).c)) fun x3 =>
 .br (!x3)
 (.fin (.inl (.inl false)))
 (.nx 3 5 i2 (i2+1)))
 (.fin (.inl (.inr ()))))
 (fun (_:Unit)=>⟨[],[]⟩) fun _ =>
 .fin (((places.length:Nat):Int) == 5)
def ly r places:=(oV r places).val
theorem OI (r:ah) (places:List Int):(oV r places).bq (fun _=>True):=by
 unfold oV
 try simp only [ar,aW]
 exact xV
def ri r places:=kk tok mixed Tryz.func151 [av r.cells,lv bJ places] (fun x=>bv x) true (oV r places) (ly r places) (u0 (OI r places))
def oW (o:Order) (ask:Int):Sk (Choice) :=
 .bt
 (.loop (default:Sum (Choice) (Unit)) (fun i2=>i2≤o.aE.length) (fun i2=>o.aE.length - i2) (0:Nat)
 (fun (i2:Nat)=>⟨[(5,iv (i2:Int))],[]⟩) fun i2=>let aV:=(o.aE.getD i2 default); let az:=(bM (i2:Int) o.aE.length);
 .lt 2 2 i2 o.aE.length
 (.r 4 (.p az) fun _ =>
 .br ((aV.ask) == ask)
 (.r 5 (.p az) fun _ =>
 .fin (.inl (.inl aV)))
 (.nx 3 5 i2 (i2+1)))
 (.fin (.inl (.inr ()))))
 (fun (_:Unit)=>⟨[],[]⟩) fun _ =>
 .fin ({ ask:=ask,ka:=0,whole:=false }:Choice)
def AP o ask:=(oW o ask).val
theorem OJ (o:Order) (ask:Int):(oW o ask).bq (fun _=>True):=by
 unfold oW
 exact mH
def GN o ask:=kk tok mixed Tryz.func209 [av o.cells,iv ask] (fun x=>av x.cells) true (oW o ask) (AP o ask) (u0 (OJ o ask))
def u7 (r:ah) (order:Int) (ask:Int) (places:List Int):Sk (Int × Bool) :=
 .r 1 (.dep ((ri r places).c) fun x1=>.dep (.wh (!x1) false ((ar order 0 (aK (((r.ak.length:Nat):Int) - 1))).c)) fun x2=>.wh ((!x1)||(!x2)) false ((ar ask 0 21).c)) fun p5 =>
 .br (((!p5.1)||(!p5.2.1))||(!p5.2.2))
 (.fin ((-1),false))
 (.r 3 (.aj (.p (bM order r.ak.length)) ((GN (r.ak.getD order.toNat default) ask).c)) fun x4 =>
 .br (x4.ka == 0)
 (.fin (order,false))
 (.r 6 (.p (bM x4.ka places.length)) fun _ =>
 .fin (places.getD x4.ka.toNat default,x4.whole)))
def Dz r order ask places:=(u7 r order ask places).val
def cJ (p:List Int):Int:=p.getD (p.length - 1) default
inductive D9 (r:ah) (ask:Int) (places:List Int):List Int→List Int × Int→Prop
 | same {p:List Int}:(aA r (cJ p) ask places).1=cJ p→D9 r ask places p (p,0)
 | part {p:List Int}:(aA r (cJ p) ask places).1≠cJ p→(aA r (cJ p) ask places).2=false→D9 r ask places p (p++[(aA r (cJ p) ask places).1],0)
 | again {p:List Int}:(aA r (cJ p) ask places).1≠cJ p→(aA r (cJ p) ask places).2=true→(aA r (cJ p) ask places).1∈p →
   D9 r ask places p (p++[(aA r (cJ p) ask places).1],if (r.ak.getD (aA r (cJ p) ask places).1.toNat default).sA=true then 0 else 12)
 | go {p:List Int} {x:List Int × Int}:(aA r (cJ p) ask places).1≠cJ p→(aA r (cJ p) ask places).2=true→(aA r (cJ p) ask places).1 ∉ p→D9 r ask places (p++[(aA r (cJ p) ask places).1]) x→D9 r ask places p x
theorem D9.uniq {r:ah} {ask:Int} {places p:List Int} {x y:List Int × Int} (h:D9 r ask places p x) (k:D9 r ask places p y):x=y:=by
 induction h with
 | same b =>
  cases k with
  | same _=>rfl
  | part b2 _=>exact absurd b b2
  | again b2 _ _=>exact absurd b b2
  | go b2 _ _ _=>exact absurd b b2
 | part b c =>
  cases k with
  | same b2=>exact absurd b2 b
  | part _ _=>rfl
  | again _ c2 _=>rw [c] at c2; cases c2
  | go _ c2 _ _=>rw [c] at c2; cases c2
 | again b c d =>
  cases k with
  | same b2=>exact absurd b2 b
  | part _ c2=>rw [c] at c2; cases c2
  | again _ _ _=>rfl
  | go _ _ d2 _=>exact absurd d d2
 | go b c d h ih =>
  cases k with
  | same b2=>exact absurd b2 b
  | part _ c2=>rw [c] at c2; cases c2
  | again _ _ d2=>exact absurd d2 d
  | go _ _ _ k2=>exact ih k2
theorem abR {α:Type} [Inhabited α] (l:List α) {j:Nat} (h:j < l.length):l.getD j default=l[j]:=by simp [List.getD,h]
theorem U5 {α:Type} (p:α→Bool) (fin:Bool):∀ (l:List α),walk (fun x (_:Unit)=>(bif !(p x) then .inl false else .inr ():Bool ⊕ Unit)) (fun _=>fin) l ()=(l.all p&&fin)
 | []=>by simp [walk]
 | x :: r=>by
  simp only [walk,List.all_cons]
  cases p x with
  | false=>rfl
  | true=>rw [Bool.true_and]; exact U5 p fin r
theorem R4 (r:ah) (pl:List Int):ly r pl=(pl.all (fun y=>bm y 0 (aK (((r.ak.length:Nat):Int) - 1)))&&(((pl.length:Nat):Int) == 5)):=by
 rw [← U5]
 simp only [ly,oV,Sk.cz,Sk.cY,Sk.bg]
 refine bD pl (fun s i=>i) (fun x (_:Unit)=>(bif !(bm x 0 (aK (((r.ak.length:Nat):Int) - 1))) then .inl false else .inr ():Bool ⊕ Unit)) id _ (fun s i hi=>?_) (fun s=>?_) (by simp) ()
 ·simp only [Sk.ct,Sk.bK,Sk.cE,Sk.cV,Sk.bg,bH.xU,fD.wG,kk,kp,ar]
  rw [decide_eq_true (by omega),cond_true]
  cases (bm (pl.getD i default) 0 (aK (((r.ak.length:Nat):Int) - 1))) <;> rfl
 ·simp only [Sk.ct,Sk.bK,Sk.cE,Sk.cV,Sk.bg]
  rw [decide_eq_false (by omega),cond_false]
theorem yB (r:ah) (pl:List Int) (hr:r.ak.length≤1000000):ly r pl=true↔pl.length=5∧∀ y,y∈pl→0≤y∧y < (r.ak.length:Int):=by
 rw [R4,aq (by omega) (by omega),Bool.and_eq_true,List.all_eq_true,beq_iff_eq]
 simp only [aW,Bool.and_eq_true,decide_eq_true_eq]
 constructor
 ·rintro ⟨h1,h2⟩; exact ⟨by omega,fun y hy=>by have:=h1 y hy; omega⟩
 ·rintro ⟨h1,h2⟩; exact ⟨fun y hy=>by have:=h2 y hy; omega,by omega⟩
theorem wq (r:ah) (o ask:Int) (pl:List Int):bR r o ask pl=true↔(0≤o∧o < (r.ak.length:Int))∧(0≤ask∧ask < 22)∧pl.length=5∧∀ y,y∈pl→0≤y∧y < (r.ak.length:Int):=by
 have e:bR r o ask pl=bif (((((decide (o < 0))||(decide (o≥((r.ak.length:Nat):Int))))||(decide (ask < 0)))||(decide (ask≥22)))||(((pl.length:Nat):Int) != 5)) then false else !(gL pl ((r.ak.length:Nat):Int)):=rfl
 have hp:gL pl ((r.ak.length:Nat):Int)=true↔∃ q,q < pl.length∧dy (pl.getD q default) ((r.ak.length:Nat):Int)=true:=ua pl _
 rw [e]
 by_cases c:(0≤o∧o < (r.ak.length:Int))∧(0≤ask∧ask < 22)∧pl.length=5
 ·have a:(((((decide (o < 0))||(decide (o≥((r.ak.length:Nat):Int))))||(decide (ask < 0)))||(decide (ask≥22)))||(((pl.length:Nat):Int) != 5))=false:=by simp only [LN]; omega
  rw [a,cond_false,Bool.not_eq_true',← Bool.not_eq_true,hp]
  constructor
  ·intro h
   refine ⟨c.1,c.2.1,c.2.2,fun y hy=>?_⟩
   obtain ⟨q,hq,e⟩:=List.getElem_of_mem hy
   have e2:pl.getD q default=y:=by simp [List.getD,hq,e]
   have h2:=fun h3=>h ⟨q,hq,h3⟩
   rw [e2,hZ] at h2
   simp only [LN,not_or,imp_false] at h2
   omega
  ·rintro ⟨-,-,-,h⟩ ⟨q,hq,h2⟩
   have:=h _ (fX hq default)
   rw [hZ] at h2
   simp only [LN] at h2
   omega
 ·have a:(((((decide (o < 0))||(decide (o≥((r.ak.length:Nat):Int))))||(decide (ask < 0)))||(decide (ask≥22)))||(((pl.length:Nat):Int) != 5))=true:=by simp only [LN]; omega
  rw [a,cond_true]
  exact ⟨fun h=>absurd h (by decide),fun h=>absurd ⟨h.1,h.2.1,h.2.2.1⟩ c⟩
theorem Q7.pw {o:Order} (h:Q7 o):o.aE.Pairwise (fun a b=>a.ask < b.ask):=by
 rw [List.pairwise_iff_getElem]
 intro i j hi hj hij
 have key:∀ d:Nat,∀ hd:i+d+1 < o.aE.length,o.aE[i].ask < (o.aE[i+d+1]'hd).ask:=by
  intro d
  induction d with
  | zero =>
   intro hd
   have:=h (i+1) hd (by omega)
   rw [show o.aE.getD (i+1 - 1) default=o.aE[i] by simp [List.getD,hi],show o.aE.getD (i+1) default=o.aE[i+0+1]'hd by simp [List.getD,show i+1 < o.aE.length from hd]] at this
   exact this
  | succ d ih =>
   intro hd
   have h1:=ih (by omega)
   have:=h (i+(d+1)+1) hd (by omega)
   rw [show o.aE.getD (i+(d+1)+1 - 1) default=o.aE[i+d+1]'(by omega) by simp [List.getD,show i+(d+1) < o.aE.length by omega]; rfl,show o.aE.getD (i+(d+1)+1) default=o.aE[i+(d+1)+1]'hd by simp [List.getD,hd]] at this
   omega
 have:=key (j - i - 1) (by omega)
 have e:i+(j - i - 1)+1=j:=by omega
 simp only [e] at this
 exact this
def wu (ask:Int) (x:Choice) (_:Unit):Choice ⊕ Unit:=bif x.ask == ask then .inl x else .inr ()
def sj (ask:Int) (pl:List Int) (x:Choice) (_:Unit):(Int × Bool) ⊕ Unit:=bif (x.ask == ask)&&(x.ka != 0) then .inl (pl.getD x.ka.toNat default,x.whole) else .inr ()
def ade (order:Int) (pl:List Int) (c:Choice):Int × Bool:=bif c.ka == 0 then (order,false) else (pl.getD c.ka.toNat default,c.whole)
theorem YJ (ask order:Int) (pl:List Int):∀ l:List Choice,(∀ x,x∈l→x.ask≠ask)→walk (sj ask pl) (fun _=>(order,false)) l ()=(order,false)
 | [],_=>rfl
 | x :: r,h=>by
  have e:sj ask pl x ()=.inr ():=by
   unfold sj
   rw [beq_eq_false_iff_ne.2 (h x (by simp)),Bool.false_and,cond_false]
  simp only [walk,e]
  exact YJ ask order pl r (fun y hy=>h y (by simp [hy]))
theorem adW (ask order:Int) (pl:List Int):∀ l:List Choice,l.Pairwise (fun a b=>a.ask < b.ask)→walk (sj ask pl) (fun _=>(order,false)) l ()=ade order pl (walk (wu ask) (fun _=>⟨ask,0,false⟩) l ())
 | [],_=>rfl
 | x :: r,h=>by
  have h:=List.pairwise_cons.1 h
  by_cases e:x.ask=ask
  ·have e1:wu ask x ()=.inl x:=by unfold wu; rw [beq_iff_eq.2 e]; rfl
   simp only [walk,e1]
   by_cases b:x.ka=0
   ·have e2:sj ask pl x ()=.inr ():=by unfold sj; rw [b]; simp
    simp only [e2]
    rw [YJ ask order pl r (fun y hy=>by have:=h.1 y hy; omega)]
    unfold ade; rw [b]; rfl
   ·have e2:sj ask pl x ()=.inl (pl.getD x.ka.toNat default,x.whole):=by
     unfold sj; rw [beq_iff_eq.2 e,bne_iff_ne.2 b]; rfl
    simp only [e2]
    unfold ade; rw [beq_eq_false_iff_ne.2 b]; rfl
  ·have e1:wu ask x ()=.inr ():=by unfold wu; rw [beq_eq_false_iff_ne.2 e]; rfl
   have e2:sj ask pl x ()=.inr ():=by unfold sj; rw [beq_eq_false_iff_ne.2 e]; rfl
   simp only [walk,e1,e2]
   exact adW ask order pl r h.2
theorem Qh (o:Order) (ask:Int):AP o ask=walk (wu ask) (fun _=>⟨ask,0,false⟩) o.aE ():=by
 simp only [AP,oW,Sk.cz,Sk.cY,Sk.ct,Sk.bK,Sk.cE,Sk.cV,Sk.bg]
 refine (bD o.aE (fun s i=>i) (wu ask) id _ (fun s i hi=>?_) (fun s=>?_) (by simp) ()).trans rfl
 ·rw [decide_eq_true (by omega),cond_true]
  unfold wu
  cases ((o.aE.getD i default).ask == ask) <;> rfl
 ·rw [decide_eq_false (by omega),cond_false]
theorem Xr (r:ah) (o ask:Int) (pl:List Int):aA r o ask pl=bif !(bR r o ask pl) then (-1,false) else walk (sj ask pl) (fun _=>(o,false)) (r.ak.getD o.toNat default).aE ():=by
 simp only [aA,gM,Sk.cz,Sk.cY,Sk.ct,Sk.bK,Sk.cE,Sk.cV,Sk.bg,fD.wG,kk,kp,eX]
 congr 1
 refine (bD (r.ak.getD o.toNat default).aE (fun s i=>i) (sj ask pl) id _ (fun s i hi=>?_) (fun s=>?_) (by simp) ()).trans rfl
 ·rw [decide_eq_true (by omega),cond_true]
  unfold sj
  cases ((((r.ak.getD o.toNat default).aE.getD i default).ask == ask)&&(((r.ak.getD o.toNat default).aE.getD i default).ka != 0)) <;> rfl
 ·rw [decide_eq_false (by omega),cond_false]
theorem Xs {r:ah} (hr:r.ak.length≤1000000) (hq:r.uq) (o ask:Int) (pl:List Int):Dz r o ask pl=aA r o ask pl:=by
 rw [Xr]
 have e:Dz r o ask pl=bif ((!(ly r pl))||(!(bm o 0 (aK (((r.ak.length:Nat):Int) - 1)))))||(!(bm ask 0 21)) then (-1,false) else ade o pl (AP (r.ak.getD o.toNat default) ask):=by
  kernel_rfl
 rw [e,aq (by omega) (by omega)]
 by_cases c:bR r o ask pl=true
 ·have c2:=(wq r o ask pl).1 c
  have c3:=(yB r pl hr).2 c2.2.2
  have e1:bm o 0 (((r.ak.length:Nat):Int) - 1)=true:=by rw [aW]; simp only [LN]; omega
  have e2:bm ask 0 21=true:=by rw [aW]; simp only [LN]; omega
  rw [c,c3,e1,e2]
  simp only [Bool.not_true,Bool.or_self,cond_false]
  rw [adW ask o pl _ (hq o.toNat (by omega)).pw,Qh]
 ·have c1:bR r o ask pl=false:=by simpa using c
  have e3:(((!(ly r pl))||(!(bm o 0 (((r.ak.length:Nat):Int) - 1))))||(!(bm ask 0 21)))=true:=by
   cases h1:ly r pl with
   | false=>rfl
   | true =>
    cases h2:bm o 0 (((r.ak.length:Nat):Int) - 1) with
    | false=>rfl
    | true =>
     cases h3:bm ask 0 21 with
     | false=>rfl
     | true =>
      exfalso
      rw [aW] at h2 h3
      simp only [LN] at h2 h3
      exact c ((wq r o ask pl).2 ⟨by omega,by omega,(yB r pl hr).1 h1⟩)
  rw [c1,e3]; rfl
theorem adX (ask:Int):∀ l:List Choice,(∀ x,x∈l→0≤x.ka∧x.ka < 5)→0≤(walk (wu ask) (fun _=>⟨ask,0,false⟩) l ()).ka∧(walk (wu ask) (fun _=>⟨ask,0,false⟩) l ()).ka < 5
 | [],_=>by simp [walk]
 | x :: r,h=>by
  simp only [walk,wu]
  cases (x.ask == ask) with
  | true=>exact h x (by simp)
  | false=>exact adX ask r (fun y hy=>h y (by simp [hy]))
theorem U6 {r:ah} {fo ask:Int} {pl:List Int} (h:¬ (bR r fo ask pl=true∧pl.getD 0 default=fo)):bw r fo ask pl=([],1):=by
 have hc:((!(bR r fo ask pl))||((pl.getD 0 default) != fo))=true:=by
  cases h1:bR r fo ask pl with
  | false=>rfl
  | true =>
   rw [Bool.not_true,Bool.false_or,bne_iff_ne]
   exact fun e=>h ⟨h1,e⟩
 simp only [bw,gW,Sk.cE,Sk.bK,Sk.bg,bH.WL,fD.wG,kk,kp,eX]
 rw [hc]; rfl
theorem Qi {r:ah} (hb:r.cx) {o ask:Int} {pl:List Int} (h:bR r o ask pl=true):0≤(aA r o ask pl).1∧(aA r o ask pl).1 < (r.ak.length:Int):=DP r o ask pl h
theorem MW {n:Nat} {p:List Int} (h:jZ n p) (hn:n≤1000000):p.getD (aK ((p.length:Int) - 1)).toNat default=cJ p:=by
 have h1:=h.1
 have h2:=h.le
 unfold cJ
 rw [aq (by omega) (by omega)]
 congr 1
 omega
theorem GP {n:Nat} {p:List Int} (h:jZ n p) {x:Int} (hx:0≤x∧x < (n:Int)) (hm:x ∉ p):jZ n (p++[x]):=h.snoc hx (fun ⟨q,hq,e⟩=>hm ((beq_iff_eq.1 e) ▸ fX hq default))
theorem MX {r:ah} {fo ask:Int} {pl:List Int} (hb:r.cx) (hr:r.ak.length≤1000000) (hf:bR r fo ask pl=true) (h0:pl.getD 0 default=fo):D9 r ask pl [fo] (bw r fo ask pl):=by
 have hc:((!(bR r fo ask pl))||((pl.getD 0 default) != fo))=false:=by
  rw [hf,Bool.not_true,Bool.false_or,bne_eq_false_iff_eq]; exact h0
 have hfo:=((wq r fo ask pl).1 hf).1
 simp only [bw,gW,Sk.cE,Sk.bK,Sk.bg,Sk.cY,bH.WL,bH.Lw,fD.wG,kk,kp,eX,nF,aP]
 rw [hc,cond_false]
 refine Hr (L:=fun x=>D9 r ask pl [fo] x) (I:=fun p=>jZ r.ak.length p∧∀ x,D9 r ask pl p x→D9 r ask pl [fo] x) (m:=fun p=>r.ak.length+1 - p.length) (fun p hp=>?_) _ _ ⟨jZ.one hfo,fun x h=>h⟩ (Nat.lt_succ_self _)
 rw [MW hp.1 hr]
 have hl:0≤cJ p∧cJ p < (r.ak.length:Int):=hp.1.get _
 have hfl:=kd hf hl
 have hx:=Qi hb hfl
 by_cases c1:(aA r (cJ p) ask pl).1=cJ p
 ·have e:((aA r (cJ p) ask pl).1 == cJ p)=true:=beq_iff_eq.2 c1
  rw [e,cond_true]
  exact hp.2 _ (.same c1)
 have e:((aA r (cJ p) ask pl).1 == cJ p)=false:=beq_eq_false_iff_ne.2 c1
 rw [e,cond_false]
 by_cases c2:(aA r (cJ p) ask pl).2=true
 ·rw [c2,Bool.not_true,Bool.false_or]
  by_cases c3:(aA r (cJ p) ask pl).1∈p
  ·rw [(yA _ _).2 c3]
   cases c4:(r.ak.getD (aA r (cJ p) ask pl).1.toNat default).sA with
   | true =>
    have:=D9.again (r:=r) (ask:=ask) (places:=pl) c1 c2 c3
    rw [if_pos c4] at this
    exact hp.2 _ this
   | false =>
    have:=D9.again (r:=r) (ask:=ask) (places:=pl) c1 c2 c3
    rw [if_neg (by rw [c4]; decide)] at this
    exact hp.2 _ this
  ·have c3':bP p (aA r (cJ p) ask pl).1=false:=by rw [← Bool.not_eq_true,yA]; exact c3
   rw [c3']
   have hs:=GP hp.1 hx c3
   have hle:=hs.le
   simp only [List.length_append,List.length_cons,List.length_nil] at hle
   refine ⟨⟨hs,fun x h=>hp.2 _ (.go c1 c2 c3 h)⟩,?_⟩
   simp only [List.length_append,List.length_cons,List.length_nil]
   omega
 ·have c2':(aA r (cJ p) ask pl).2=false:=by simpa using c2
  rw [c2']
  exact hp.2 _ (.part c1 c2')
theorem Xt {r:ah} {fo ask:Int} {pl:List Int} (hr:r.ak.length≤1000000):((!(ly r pl)||!(decide (0≤fo)&&decide (fo≤aK (((r.ak.length:Nat):Int) - 1))))||!(decide (0≤ask)&&decide (ask≤21))) = !(bR r fo ask pl):=by
 rw [aq (by omega) (by omega)]
 have h:=wq r fo ask pl
 rw [← yB r pl hr] at h
 rw [Bool.eq_iff_iff]
 simp only [LN]
 rw [← Bool.not_eq_true (bR r fo ask pl),h]
 cases ly r pl <;> simp <;> omega
theorem MY (r:ah) (order:Int) (ask:Int) (places:List Int):(fun (x:Int × Bool)=>r.ak.length≤1000000→r.uq→x=aA r order ask places) (Dz r order ask places):=(fun h1 h2=>Xs h1 h2 _ _ _)
theorem R5 (r:ah) (order:Int) (ask:Int) (places:List Int) (hb:r.cx) (hr:r.Small) (hq:r.uq):(u7 r order ask places).bq (fun _=>True):=by
 refine Sk.aO _ ?_
 unfold u7
 simp only [Sk.gx,Sk.aD,reduceCtorEq,ON,kk,kp,ar,GN,ri,aW,forall_eq,maxLen]
 have hn:=hr.2.2.2.2.1
 rw [Xt hn]
 intro hc
 have h:=(wq r order ask places).1 (by simpa using hc)
 refine ⟨h.1,fun hz=>?_⟩
 rw [Qh] at hz ⊢
 have:=adX ask (r.ak.getD order.toNat default).aE (fun x hx=>by
  obtain ⟨j,hj,e⟩:=List.getElem_of_mem hx
  have:=hb order.toNat j (by omega) hj
  have e2:(r.ak.getD order.toNat default).aE.getD j default=x:=e ▸ abR _ hj
  rw [e2] at this
  exact this)
 rw [h.2.2.1]
 exact this
def CS r order ask places:=kk tok mixed Tryz.func152 [av r.cells,iv order,iv ask,lv bJ places] (fun x=>.fb [iv x.1,bv x.2]) true (u7 r order ask places) (Dz r order ask places) (u3 (R5 r order ask places)) (fun (x:Int × Bool)=>r.ak.length≤1000000→r.uq→x=aA r order ask places) (MY r order ask places)
def adf (r:ah) (fo ask:Int) (pl:List Int) (s:List Bool) (p:List Int) (k:Int):Prop:=s.length=r.ak.length∧jZ r.ak.length p∧(k+1=(p.length:Int))∧(∀ q:Nat,q < r.ak.length→(s.getD q default=true↔(q:Int)∈p))∧∀ x,D9 r ask pl p x→D9 r ask pl [fo] x
theorem Qj {r:ah} {fo ask:Int} {pl:List Int} (hf:0≤fo∧fo < (r.ak.length:Int)):adf r fo ask pl ((List.replicate r.ak.length false).set fo.toNat true) [fo] 0:=by
 refine ⟨by simp,jZ.one hf,rfl,fun q hq=>?_,fun x h=>h⟩
 rw [List.mem_singleton]
 by_cases e:q=fo.toNat
 ·subst e
  rw [pX _ (by simpa using hq)]
  exact ⟨fun _=>by omega,fun _=>rfl⟩
 ·rw [pY _ e]
  refine ⟨fun h=>?_,fun h=>absurd (by omega) e⟩
  simp [List.getD,hq] at h
theorem Qk {r:ah} {fo ask k:Int} {pl p:List Int} {s:List Bool} (hb:r.cx) (hr:r.ak.length≤1000000) (hf:bR r fo ask pl=true) (h0:pl.getD 0 default=fo) (hi:adf r fo ask pl s p k) :
  (0≤(aA r (cJ p) ask pl).1∧(aA r (cJ p) ask pl).1 < (r.ak.length:Int))∧((aA r (cJ p) ask pl).1=cJ p→(p,0)=bw r fo ask pl) ∧
  ((aA r (cJ p) ask pl).1≠cJ p→(aA r (cJ p) ask pl).2=false→(p++[(aA r (cJ p) ask pl).1],0)=bw r fo ask pl) ∧
  ((aA r (cJ p) ask pl).1≠cJ p→(aA r (cJ p) ask pl).2=true→s.getD (aA r (cJ p) ask pl).1.toNat default=true →
   (p++[(aA r (cJ p) ask pl).1],if (r.ak.getD (aA r (cJ p) ask pl).1.toNat default).sA=true then 0 else 12)=bw r fo ask pl) ∧
  ((aA r (cJ p) ask pl).1≠cJ p→(aA r (cJ p) ask pl).2=true→s.getD (aA r (cJ p) ask pl).1.toNat default=false →
   adf r fo ask pl (s.set (aA r (cJ p) ask pl).1.toNat true) (p++[(aA r (cJ p) ask pl).1]) (k+1)):=by
 obtain ⟨h1,h2,h3,h4,h5⟩:=hi
 have hl:0≤cJ p∧cJ p < (r.ak.length:Int):=h2.get _
 have hx:=Qi hb (kd hf hl)
 have hP:=MX hb hr hf h0
 have hs:s.getD (aA r (cJ p) ask pl).1.toNat default=true↔(aA r (cJ p) ask pl).1∈p:=by
  rw [h4 _ (by omega),show (((aA r (cJ p) ask pl).1.toNat:Nat):Int)=(aA r (cJ p) ask pl).1 by omega]
 refine ⟨hx,fun c1=>(h5 _ (.same c1)).uniq hP,fun c1 c2=>(h5 _ (.part c1 c2)).uniq hP,fun c1 c2 c3=>(h5 _ (.again c1 c2 (hs.1 c3))).uniq hP,fun c1 c2 c3=>?_⟩
 have hm:(aA r (cJ p) ask pl).1 ∉ p:=fun h=>by rw [hs.2 h] at c3; cases c3
 refine ⟨by simpa using h1,GP h2 hx hm,by simp; omega,fun q hq=>?_,fun x h=>h5 _ (.go c1 c2 hm h)⟩
 rw [List.mem_append,List.mem_singleton]
 by_cases e:q=(aA r (cJ p) ask pl).1.toNat
 ·subst e
  rw [pX _ (by omega)]
  exact ⟨fun _=>.inr (by omega),fun _=>rfl⟩
 ·rw [pY _ e,h4 q hq]
  exact ⟨.inl,fun h=>h.resolve_right (by omega)⟩
def sm (r:ah) (ai:Int) (ask:Int) (places:List Int):Sk ((List Int) × Int):=let cF:=((r.ak.length:Nat):Int); let aV:=(List.replicate r.ak.length false);
 .r 1 (.dep ((ri r places).c) fun x1=>.dep (.wh (!x1) false ((ar ai 0 (aK (cF - 1))).c)) fun x2=>.wh ((!x1)||(!x2)) false ((ar ask 0 21).c)) fun p7 =>
 .br (((!p7.1)||(!p7.2.1))||(!p7.2.2))
 (.fin ([],1))
 (.r 3 (.p (bM (0:Int) places.length)) fun _ =>
 .br ((places.getD 0 default) != ai)
 (.fin ([],1))
 (.r 5 (.aj (.o [.cU (mkC abe r.ak.length false)]) (.p (WK cF 1))) fun _ =>
 .r 6 (.o [.cU (dG cN [ai])]) fun _ =>
 .r 7 (.aj (.p (bM ai (aV.length))) (.aj (.o [.cU (j6 abe aV ai.toNat true)]) (.p (ai.toNat < aV.length)))) fun _ =>
 .wn 41 aV.length (aV.set ai.toNat true).length <|
 .bind true (fun b4=>False)
 (.loop (default:Sum ((List Int) × Int) ((List Int))) (fun i5=>adf r ai ask places i5.1 i5.2.1 i5.2.2) (fun i5=>((r.ak.length:Int)+1 - i5.2.2).toNat) ((aV.set ai.toNat true,[ai],0):(List Bool) × (List Int) × Int)
 (fun (i5:(List Bool) × (List Int) × Int)=>⟨[(10,ow 100003 i5.1),(11,ow 100004 i5.2.1),(12,iv i5.2.2)],[(100003,cp 4 1 pU i5.1),(100004,cp 3 1 bJ i5.2.1)]⟩) fun i5=>let az:=(aK (((i5.2.1.length:Nat):Int) - 1)); let HA:=(az.toNat < i5.2.1.length); let B2:=(i5.2.1.getD (az.toNat) default);
 .br (decide (i5.2.2≤cF))
 (.r 11 (.aj (.p (bM az i5.2.1.length)) (.aj (.p HA) ((CS r B2 ask places).c))) fun x6=>let rz:=(bM x6.1 i5.1.length); let kV:=(x6.1.toNat < i5.1.length); let eG:=(i5.1.getD x6.1.toNat default);
 .r 12 (.aj (.p (bM az i5.2.1.length)) (.p HA)) fun _ =>
 .br (x6.1 == B2)
 (.fin (.inl (.inl (i5.2.1,0))))
 (.r 14 (.aj (.o [.cU (dG cN [x6.1])]) (.aj (.o [.cU (kx cN i5.2.1 [x6.1])]) (.aj (.t (cN.k6 [x6.1])) (.p (uG i5.2.1.length [x6.1].length 8))))) fun _ =>
 .br (!x6.2)
 (.fin (.inl (.inl (i5.2.1++[x6.1],0))))
 (.r 17 (.aj (.p rz) (.aj (.p kV) (.wh eG true (.p (bM x6.1 r.ak.length))))) fun _ =>
 .br (eG&&((r.ak.getD x6.1.toNat default).sA))
 (.fin (.inl (.inl (i5.2.1++[x6.1],0))))
 (.r 19 (.aj (.p rz) (.p kV)) fun _ =>
 .br eG
 (.fin (.inl (.inl (i5.2.1++[x6.1],12))))
 (.r 21 (.aj (.p rz) (.aj (.o [.cU (j6 abe i5.1 x6.1.toNat true)]) (.p kV))) fun _ =>
 .wn 100003 i5.1.length (i5.1.set x6.1.toNat true).length <|
 .fin (.inr (i5.1.set x6.1.toNat true,i5.2.1++[x6.1],aK (i5.2.2+1))))))))
 (.fin (.inl (.inr i5.2.1))))
 (fun (b4:(List Int))=>⟨[(11,ow 100002 b4)],[(100002,cp 3 1 bJ b4)]⟩) fun b4 =>
 .fin (b4,12)))
def rj r ai ask places:=(sm r ai ask places).val
theorem U7 (r:ah) (ai:Int) (ask:Int) (places:List Int) (hP:r.cx∧r.Small∧r.uq):(sm r ai ask places).dq (fun (x:(List Int) × Int)=>x=bw r ai ask places):=by
 refine Sk.bh _ ?_
 unfold sm
 simp only [Sk.cK,Sk.aD,reduceCtorEq,ON,kk,kp,ar,CS,ri,aW,forall_eq,maxLen]
 obtain ⟨hb,hr,hq⟩:=hP
 have hn:=hr.2.2.2.2.1
 rw [Xt hn]
 refine ⟨fun hc=>?_,fun hc _=>⟨fun h0=>?_,fun h0 _ _ _=>⟨?_,fun i hi=>⟨fun hle hL=>?_,fun hle=>?_⟩⟩⟩⟩
 ·rw [U6]
  intro h; rw [h.1] at hc; cases hc
 ·rw [U6]
  intro h; rw [bne_iff_ne] at h0; exact h0 h.2
 ·exact Qj ((wq _ _ _ _).1 (by simpa using hc)).1
 ·have hf:bR r ai ask places=true:=by simpa using hc
  have R:=Qk hb hn hf (by simpa using h0) hi
  have hL:=hL hn hq
  rw [MW hi.2.1 hn] at hL ⊢
  rw [hL]
  have hk:=hi.2.2.1
  have ae4:=hi.2.1.le
  rw [aq (by omega) (by omega)]
  refine fun _=>⟨fun h1=>R.2.1 (by simpa using h1),fun h1 _=>?_⟩
  have h1:(aA r (cJ i.2.1) ask places).1≠cJ i.2.1:=by simpa using h1
  refine ⟨fun h2=>R.2.2.1 h1 (by simpa using h2),fun h2 _=>?_⟩
  have h2:(aA r (cJ i.2.1) ask places).2=true:=by simpa using h2
  refine ⟨fun h3=>?_,fun h3 _=>⟨fun h4=>?_,fun h4 _=>⟨R.2.2.2.2 h1 h2 h4,by omega⟩⟩⟩
  ·rw [Bool.and_eq_true] at h3
   have:=R.2.2.2.1 h1 h2 h3.1
   rw [if_pos h3.2] at this
   exact this
  ·rw [h4,Bool.true_and] at h3
   have:=R.2.2.2.1 h1 h2 h4
   rw [if_neg (by rw [h3]; decide)] at this
   exact this
 ·have hk:=hi.2.2.1
  have ae4:=hi.2.1.le
  simp only [LN] at hle
  omega
theorem GQ (r:ah) (ai:Int) (ask:Int) (places:List Int):(fun (x:(List Int) × Int)=>(r.cx∧r.Small∧r.uq)→(x=bw r ai ask places)) (rj r ai ask places):=fun hP=>have h:=Sk.dc _ (U7 r ai ask places hP); h
theorem Xu (r:ah) (ai:Int) (ask:Int) (places:List Int) (hb:r.cx) (hr:r.Small) (hq:r.uq):(sm r ai ask places).bq (fun _=>True):=by
 refine Sk.aO _ ?_
 unfold sm
 simp only [Sk.gx,Sk.aD,reduceCtorEq,ON,kk,kp,ar,CS,ri,aW,forall_eq,maxLen]
 have hn:=hr.2.2.2.2.1
 rw [Xt hn]
 intro hc
 have hf:bR r ai ask places=true:=by simpa using hc
 have hfi:=(wq _ _ _ _).1 hf
 have hrl:(List.replicate r.ak.length false).length=r.ak.length:=List.length_replicate
 refine ⟨⟨by omega,by rw [hfi.2.2.1]; decide⟩,fun _ h0=>⟨⟨by omega,by omega,by omega⟩,fun _ _=>⟨⟨by rw [hrl]; exact hfi.1,by omega⟩,fun _=>⟨by simp,Qj hfi.1,fun i hi=>⟨fun hle=>?_,fun hle=>?_⟩⟩⟩⟩⟩
 ·have R:=Qk hb hn hf (by simpa using h0) hi
  have hl:=hi.1
  have hk:=hi.2.2.1
  have hp:=hi.2.1.1
  have ae4:=hi.2.1.le
  have e:aK ((i.2.1.length:Int) - 1)=(i.2.1.length:Int) - 1:=aq (by omega) (by omega)
  have e2:aK (i.2.2+1)=i.2.2+1:=aq (by omega) (by omega)
  rw [MW hi.2.1 hn,e,e2]
  refine ⟨⟨⟨by omega,by omega⟩,by omega,hb,hr,hq⟩,fun hL=>?_⟩
  rw [hL hn hq]
  have hx:=R.1
  have h1l:∀ z:Int,[z].length=1:=fun _=>rfl
  refine ⟨⟨⟨by omega,by omega⟩,by omega⟩,fun _ h1=>⟨⟨by rw [h1l]; omega,by rw [h1l]; omega⟩,fun _ h2=>⟨⟨⟨by omega,by omega⟩,by omega,fun _=>by omega⟩,fun _ h3=>⟨⟨⟨by omega,by omega⟩,by omega⟩,fun _ h4=>⟨⟨⟨by omega,by omega⟩,by omega⟩,fun _=>⟨by simp,R.2.2.2.2 (by simpa using h1) (by simpa using h2) h4,by omega⟩⟩⟩⟩⟩⟩
 ·have hk:=hi.2.2.1
  have ae4:=hi.2.1.le
  simp only [LN] at hle
  omega
def Ql r ai ask places:=kk tok mixed Tryz.func109 [av r.cells,iv ai,iv ask,lv bJ places] (fun x=>.fb [lv bJ x.1,iv x.2]) false (sm r ai ask places) (rj r ai ask places) (u3 (Xu r ai ask places)) (fun (x:(List Int) × Int)=>(r.cx∧r.Small∧r.uq)→(x=bw r ai ask places)) (GQ r ai ask places)
def tJ (o:Order) (ask:Int):Sk (Int) :=
 .bind true (fun b1=>∀ q,q < o.rules.length→(o.rules.getD q default).ask≠ask)
 (.loop (default:Sum (Int) (Unit)) (fun i2=>i2≤o.rules.length∧∀ q,q < i2→(o.rules.getD q default).ask≠ask) (fun i2=>o.rules.length - i2) (0:Nat)
 (fun (i2:Nat)=>⟨[(5,iv (i2:Int))],[]⟩) fun i2 =>
 .lt 2 3 i2 o.rules.length
 (.r 4 (.p (bM (i2:Int) o.rules.length)) fun _ =>
 .br (((o.rules.getD i2 default).ask) == ask)
 (.fin (.inl (.inl (i2:Int))))
 (.nx 3 5 i2 (i2+1)))
 (.fin (.inl (.inr ()))))
 (fun (_:Unit)=>⟨[],[]⟩) fun _ =>
 .fin (-1)
def ig o ask:=(tJ o ask).val
theorem GR (o:Order) (ask:Int):(tJ o ask).dq (fun (x:Int)=>(x = -1∧∀ q,q < o.rules.length→(o.rules.getD q default).ask≠ask)∨(0≤x∧x < (o.rules.length:Int)∧(o.rules.getD x.toNat default).ask=ask∧∀ q,(q:Nat) < x.toNat→(o.rules.getD q default).ask≠ask)):=by
 refine Sk.bh _ ?_
 unfold tJ
 simp only [Sk.cK,Sk.aD,reduceCtorEq,ON,kk,kp,maxLen]
 refine ⟨⟨⟨Nat.zero_le _,fun q hq=>absurd hq (by omega)⟩,fun i hi=>⟨fun hc _=>⟨fun h=>?_,fun h _=>?_⟩,fun hc=>?_⟩⟩,fun _ hb=>.inl hb⟩
 all_goals simp only [LN] at hc
 ·simp only [LN] at h
  refine .inr ⟨by omega,by omega,?_,fun q hq=>hi.2 q (by omega)⟩
  rw [Int.toNat_natCast]
  exact h
 ·simp only [LN] at h
  refine ⟨⟨by omega,fun q hq=>?_⟩,by omega⟩
  rcases Nat.lt_succ_iff_lt_or_eq.1 hq with h1 | rfl
  ·exact hi.2 q h1
  ·exact h
 ·exact fun q hq=>hi.2 q (by omega)
theorem OK (o:Order) (ask:Int):(fun (x:Int)=>(x = -1∧∀ q,q < o.rules.length→(o.rules.getD q default).ask≠ask)∨(0≤x∧x < (o.rules.length:Int)∧(o.rules.getD x.toNat default).ask=ask∧∀ q,(q:Nat) < x.toNat→(o.rules.getD q default).ask≠ask)) (ig o ask):=have h:=Sk.dc _ (GR o ask); h
theorem U8 (o:Order) (ask:Int):(tJ o ask).bq (fun _=>True):=by
 refine Sk.aO _ ?_
 unfold tJ
 simp only [Sk.gx,Sk.aD,reduceCtorEq,ON,kk,kp,maxLen]
 refine ⟨⟨Nat.zero_le _,fun q hq=>absurd hq (by omega)⟩,fun i hi hm=>⟨fun hc=>⟨⟨by omega,of_decide_eq_true hc⟩,fun _ h _=>⟨?_,⟨?_,fun q hq=>?_⟩,?_⟩⟩,fun hc=>?_⟩⟩
 all_goals simp only [LN] at hc
 ·exact (aq (by omega) (by omega)).trans (by omega)
 ·omega
 ·simp only [LN] at h
  rcases Nat.lt_succ_iff_lt_or_eq.1 hq with h1 | rfl
  ·exact hi.2 q h1
  ·exact h
 ·omega
 ·exact fun q hq=>hi.2 q (by omega)
def sn o ask:=kp tok mixed Tryz.func155 [av o.cells,iv ask] (fun x=>iv x) true (ig o ask) (u0 (U8 o ask)) (GR o ask)
def rk (op:Int):Sk (Int) :=
 .bind false (fun _=>True)
 (.br (op == 0)
 (.fin (.inr (op == 0)))
 (.br (op == 1)
 (.fin (.inr (op == 1)))
 (.fin (.inr (op == 2)))))
 (fun (b1:Bool)=>⟨[(4,bv b1)],[]⟩) fun b1 =>
 .br b1
 (.fin 0)
 (.br (op == 3)
 (.fin 1)
 (.br (op == 6)
 (.fin 3)
 (.fin 2)))
def dp op:=(rk op).val
theorem lM (op:Int):dp op=if op=0∨op=1∨op=2 then 0 else if op=3 then 1 else if op=6 then 3 else 2:=by
 have e:dp op=bif (bif op == 0 then (op == 0) else bif op == 1 then (op == 1) else (op == 2)) then 0 else bif op == 3 then 1 else bif op == 6 then 3 else 2:=by
  simp only [dp,rk,Sk.cz,Sk.bK,Sk.bg]
  cases (op == 0) <;> cases (op == 1) <;> rfl
 rw [e]
 by_cases h0:op=0
 ·subst h0; rfl
 by_cases h1:op=1
 ·subst h1; rfl
 by_cases h2:op=2
 ·subst h2; rfl
 rw [if_neg (by omega),beq_eq_false_iff_ne.2 h0,beq_eq_false_iff_ne.2 h1,beq_eq_false_iff_ne.2 h2]
 simp only [cond_false,Bool.cond_eq_ite,beq_iff_eq,Bool.false_eq_true,if_false]
theorem MZ (op:Int):(fun (x:Int)=>x=if op=0∨op=1∨op=2 then 0 else if op=3 then 1 else if op=6 then 3 else 2) (dp op):=(lM op)
theorem R6 (op:Int):(rk op).bq (fun _=>True):=by
 unfold rk
 exact mP
def CU op:=kk tok mixed Tryz.func266 [iv op] (fun x=>iv x) true (rk op) (dp op) (u0 (R6 op)) (fun (x:Int)=>x=if op=0∨op=1∨op=2 then 0 else if op=3 then 1 else if op=6 then 3 else 2) (MZ op)
end
end Go.Proofs.YtaeekeogpbbkcaaGreatDoor
