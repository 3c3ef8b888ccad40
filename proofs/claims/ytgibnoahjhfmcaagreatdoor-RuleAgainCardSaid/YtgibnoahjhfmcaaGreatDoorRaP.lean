/- The plain law, no program in sight. -/
import Derived.Test.YtgibnoahjhfmcaaGreatDoorRa14
import Derived.Test.YtgibnoahjhfmcaaGreatDoorLd
set_option linter.unusedSimpArgs false
set_option linter.unusedVariables false
set_option maxRecDepth 100000
set_option maxHeartbeats 1000000
namespace Go.Proofs.YtgibnoahjhfmcaaGreatDoor
open Go Go.Av
theorem sane16_true:L16_sane=true:=by kernel_rfl
theorem L16_RuleAgain_law (s:ByteArray):L16_RuleAgain s=true:=by
 refine Sk.pvalE (L16_RuleAgain_sk s) (L:=fun x=>x=true) ?_
 unfold L16_RuleAgain_sk
 simp only [Sk.pstE,Sk.isLoop,reduceCtorEq,ON,kk,L16_sane_k,rule_Print_k,rule_Parse_k,R16_Same_k]
 intro x hx
 rw [sane16_true] at hx
 subst hx
 refine ⟨fun _=>rfl,fun hc y hy=>⟨fun he=>?_,fun he z hz w hw v hv=>?_⟩⟩
 ·have hs:s.size≤2000:=by have:=of_decide_eq_false hc; omega
  rw [hy] at he ⊢
  have h0:(rule_Parse s).2.2≠0:=by simpa using he
  obtain ⟨h1,h2,h3⟩:=(parse_err (s:=s) (by omega)).2 h0
  rw [h1,decide_eq_true h2,decide_eq_true h3]
  rfl
 ·have hs:s.size≤2000:=by have:=of_decide_eq_false hc; omega
  rw [hy] at he hz hv ⊢
  have h0:(rule_Parse s).2.2=0:=by simpa using he
  have hp:=print_again hs h0
  obtain ⟨h1,h2⟩:=parse_print hp
  have h3:=(parse_err (s:=s) (by omega)).1 h0
  rw [hz] at hw ⊢
  have hw:w=((rule_Parse s).1,0,0):=hw.trans h1
  subst hw
  have hv:v=R16_Same (rule_Parse s).1 (rule_Parse s).1:=hv
  rw [hv,same_refl _ h2,h3,hp]
  rfl
end Go.Proofs.YtgibnoahjhfmcaaGreatDoor
