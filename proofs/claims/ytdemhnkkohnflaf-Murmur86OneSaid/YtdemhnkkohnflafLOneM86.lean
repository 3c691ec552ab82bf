/- Murmur86One's walk. -/
import Derived.Test.YtdemhnkkohnflafAllM86
namespace Go.Proofs.Ytdemhnkkohnflaf.StM86
set_option linter.unusedVariables false
set_option linter.unusedSimpArgs false
open Go.RowKit

set_option maxHeartbeats 400000 in
theorem Murmur86One_yes (sd : BitVec 32) (a1 : Option Addr) (n1 c1 : Nat) (l1 : Bytes) (w : World) (hb1 : IsBytes w a1 n1 c1 l1) :
    Calls Try.prog 3 #[.int .u32 (W32 sd), .slice a1 n1 c1] w (Yes w) := by
  obtain ⟨oh, ol, eh, el, hfg⟩ := tells_ex
  by_cases hbig : 2000 < n1
  · have i1 : (2000 : Int) < (n1 : Int) := by omega
    clear hb1 hbig
    go_enter Try.func3, Try.ntmps3
    go_wp2_with (go_at_call 7; refine (awake_yes _).mono ?_; rintro e w1 ⟨rfl, hf1⟩)
    go_ret
    exact ⟨rfl, hf1⟩
  · have i1 : (n1 : Int) ≤ 2000 := by omega
    go_enter Try.func3, Try.ntmps3
    go_wp2_with fail
    refine (awake_yes _).mono ?_
    rintro e w1 ⟨rfl, hf1⟩
    go_wp2_with fail
    refine (One_any sd _ _ _ l1 _ (hb1.no hf1) (by omega)).mono ?_
    rintro e w2 ⟨rfl, hf2⟩
    rw [← hfg.out.1, ← hfg.out.2.1]
    go_wp2_with fail
    refine (refOne_any sd _ _ _ l1 _ ((hb1.no hf1).no hf2) (by omega)).mono ?_
    rintro e w3 ⟨rfl, hf3⟩
    rw [← hfg.out.1, ← hfg.out.2.1]
    go_wp2_with fail
    go_ret
    exact ⟨rfl, (hf1.no hf2).no hf3⟩
end Go.Proofs.Ytdemhnkkohnflaf.StM86
