/- SealErrors' walk. -/
import Derived.Test.YteicdilbmaboiaaDoorSealWord
namespace Go.Proofs.YteicdilbmaboiaaDoor
set_option maxRecDepth 100000
set_option linter.unusedVariables false
set_option linter.unusedSimpArgs false
open Go.RowKit

set_option maxHeartbeats 1000000 in
theorem SealErrors_yes (n at_ : Int) (w : World) (hg : ErrT w) (ht : TabT w) (h0 : -9223372036854775808 ≤ at_) (h1 : at_ ≤ 9223372036854775807) :
    Calls Tryd.prog 5 #[.int .i64 n, .int .i64 at_] w (Yes w) := by
  by_cases hn : n = 0
  · subst hn
    have hw : wordB 0 = ⟨#[111, 107]⟩ := rfl
    go_enter Tryd.func5, Tryd.ntmps5
    go_wp2_with fail
    refine (awake16_yes _ hg).mono ?_
    rintro e w1 ⟨rfl, hf1⟩
    go_wp2_with fail
    refine (Wrap_ok at_ _).mono ?_
    rintro e w2 ⟨rfl, rfl⟩
    go_wp2_with fail
    refine (Errno_nil _).mono ?_
    rintro e w3 ⟨rfl, hf3⟩
    go_wp2_with fail
    refine (At_nil _).mono ?_
    rintro e w4 ⟨rfl, hf4⟩
    go_wp2_with fail
    refine (Word_nil _).mono ?_
    rintro e w5 ⟨rfl, hf5⟩
    rw [hw]
    go_wp2_with fail
    go_ret
    exact ⟨rfl, ((hf1.no hf3).no hf4).no hf5⟩
  have hV := wordB_size n
  have hN := Name_any n
  have hD := Digits_any at_ h0 h1
  have hI := itoa_size at_ h0 h1
  by_cases hat : at_ = -1
  · have hW : ∀ {w : World} {b : Nat} (h : Placed w b n at_) (hg : ErrT w) (ht : TabT w), Calls Tryd.prog 17 #[.iface 50 (.pointer (some ⟨b, 0, none⟩))] w (GivesNew (.string (wordB n)) w) := fun h hg ht => by
      have := Word_any h hg ht h0 h1
      unfold wholeB at this
      rwa [if_pos hat] at this
    subst hat
    generalize wordB n = V at hV hN hW
    go_enter Tryd.func5, Tryd.ntmps5
    go_wp2_with fail
    refine (awake16_yes _ hg).mono ?_
    rintro e w1 ⟨rfl, hf1⟩
    go_wp2_with fail
    refine (Wrap_any n _ hn _).mono ?_
    rintro ev w2 ⟨b, rfl, hp2, _, hf2⟩
    have hf := hf1.no hf2
    go_wp2_with fail
    refine (hN _).mono ?_
    rintro e w3 ⟨rfl, hf3⟩
    have hp3 := hp2.no hf3
    have hf' := hf.no hf3
    go_wp2_with fail
    refine (Errno_any hp3 (hg.no hf')).mono ?_
    rintro ev w4 ⟨rfl, hf4⟩
    have hp4 := hp3.no hf4
    have hf5 := hf'.no hf4
    go_wp2_with fail
    refine (At_any hp4 (hg.no hf5)).mono ?_
    rintro ev w5 ⟨rfl, hf6⟩
    have hp5 := hp4.no hf6
    have hf7 := hf5.no hf6
    go_wp2_with fail
    refine (hW hp5 (hg.no hf7) (ht.no hf7)).mono ?_
    rintro ev w6 ⟨rfl, hf8⟩
    go_wp2_with fail
    go_ret
    exact ⟨rfl, hf7.no hf8⟩
  have hW : ∀ {w : World} {b : Nat} (h : Placed w b n at_) (hg : ErrT w) (ht : TabT w), Calls Tryd.prog 17 #[.iface 50 (.pointer (some ⟨b, 0, none⟩))] w (GivesNew (.string (wordB n ++ (⟨#[32, 97, 116, 32]⟩ ++ ⟨(Lib.itoa at_).toArray⟩))) w) := fun h hg ht => by
    have := Word_any h hg ht h0 h1
    unfold wholeB at this
    rwa [if_neg hat] at this
  generalize wordB n = V at hV hN hW
  generalize ByteArray.mk (Lib.itoa at_).toArray = I at hI hD hW
  have s1 : (9223372036854775807 < 4 + I.size) = False := by simp; omega
  have s2 : (9223372036854775807 < V.size + (4 + I.size)) = False := by simp; omega
  clear hV hI
  go_enter Tryd.func5, Tryd.ntmps5
  go_wp2_with fail
  refine (awake16_yes _ hg).mono ?_
  rintro e w1 ⟨rfl, hf1⟩
  go_wp2_with fail
  refine (Wrap_any n _ hn _).mono ?_
  rintro ev w2 ⟨b, rfl, hp2, _, hf2⟩
  have hf := hf1.no hf2
  go_wp2_with fail
  refine (hN _).mono ?_
  rintro e w3 ⟨rfl, hf3⟩
  have hp3 := hp2.no hf3
  have hf' := hf.no hf3
  go_wp2_with fail
  refine (hD _).mono ?_
  rintro e w3' ⟨rfl, hf3'⟩
  have hp3' := hp3.no hf3'
  have hf'' := hf'.no hf3'
  go_wp2_with fail
  refine (Errno_any hp3' (hg.no hf'')).mono ?_
  rintro ev w4 ⟨rfl, hf4⟩
  have hp4 := hp3'.no hf4
  have hf5 := hf''.no hf4
  go_wp2_with fail
  refine (At_any hp4 (hg.no hf5)).mono ?_
  rintro ev w5 ⟨rfl, hf6⟩
  have hp5 := hp4.no hf6
  have hf7 := hf5.no hf6
  go_wp2_with fail
  refine (hW hp5 (hg.no hf7) (ht.no hf7)).mono ?_
  rintro ev w6 ⟨rfl, hf8⟩
  go_wp2_with fail
  go_ret
  exact ⟨rfl, hf7.no hf8⟩
theorem sealErrors_w (n at_ : Int) (w : World) (_ : -9223372036854775808 ≤ n) (_ : n ≤ 9223372036854775807) (h0 : -9223372036854775808 ≤ at_) (h1 : at_ ≤ 9223372036854775807) (h : ErrT w ∧ TabT w) :
    Calls Tryd.prog 5 #[.int .i64 n, .int .i64 at_] w (Yes w) := SealErrors_yes n at_ w h.1 h.2 h0 h1
end Go.Proofs.YteicdilbmaboiaaDoor
