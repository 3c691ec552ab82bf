/- seal.Word; SealErrors' walk. -/
import Derived.Test.YteicdilbmaboiaaDoorSealName
import Derived.Test.YteicdilbmaboiaaDoorSealIs
import Derived.Test.YteicdilbmaboiaaDoorItoaSeal
namespace Go.Proofs.YteicdilbmaboiaaDoor
set_option maxRecDepth 100000
set_option linter.unusedVariables false
set_option linter.unusedSimpArgs false
open Go.RowKit

/-- The table of strconv's. -/
def TabT (w : World) : Prop := Lib.TabIs Tryd.prog w "internal/strconv.uint64pow10" .u64 Lib.pow10Tab
theorem TabT.no {w w' : World} (h : TabT w) (k : Fr No w w') : TabT w' := by
  unfold TabT Lib.TabIs World.var? at h ⊢
  obtain ⟨g, hg, h2⟩ := Option.bind_eq_some_iff.1 h
  rw [hg]
  show (match w'.heap[g]? with | some (.cells cs _ _) => some cs | _ => none) = _
  cases ho : w.heap[g]? with
  | none => rw [ho] at h2; cases h2
  | some o => rw [k.heap (fun f => f) ho, ← ho]; exact h2
theorem Itoa_any (n : Int) (h0 : -9223372036854775808 ≤ n) (h1 : n ≤ 9223372036854775807) (w : World) (ht : TabT w) :
    Calls Tryd.prog 29 #[.int .i64 n] w (GivesNew (.string ⟨(Lib.itoa n).toArray⟩) w) := by
  refine (Any.strconv_Itoa laysItoa n h0 h1 w ht).mono ?_
  rintro e w' ⟨rfl, k, os, rfl⟩
  refine ⟨rfl, rfl, rfl, rfl, ?_, fun i hi _ => ?_⟩
  · simp [Sort.grow]
  · simp [Sort.grow, Array.getElem?_append, hi]
/-- an error's whole word -/
def wholeB (e at_ : Int) : ByteArray := if at_ = -1 then wordB e else wordB e ++ (⟨#[32, 97, 116, 32]⟩ ++ ⟨(Lib.itoa at_).toArray⟩)
theorem Word_nil (w : World) : Calls Tryd.prog 17 #[.nilIface] w (GivesNew (.string (wordB 0)) w) := by
  go_enter Tryd.func17, Tryd.ntmps17
  go_wp2_with fail
  refine (Error_any 0 _).mono ?_
  rintro ev w1 ⟨rfl, hf⟩
  go_wp2_with fail
  go_ret
  exact ⟨rfl, hf⟩
theorem Word_any {w : World} {b : Nat} {e at_ : Int} (h : Placed w b e at_) (hg : ErrT w) (ht : TabT w) (h0 : -9223372036854775808 ≤ at_) (h1 : at_ ≤ 9223372036854775807) :
    Calls Tryd.prog 17 #[.iface 50 (.pointer (some ⟨b, 0, none⟩))] w (GivesNew (.string (wholeB e at_)) w) := by
  unfold wholeB
  by_cases hat : at_ = -1
  · subst hat
    rw [if_pos rfl]
    go_enter Tryd.func17, Tryd.ntmps17
    go_wp2_with fail
    refine (Errno_any h hg).mono ?_
    rintro ev w1 ⟨rfl, hf1⟩
    have p1 := h.no hf1
    have g1 := hg.no hf1
    go_wp2_with fail
    refine (At_any p1 g1).mono ?_
    rintro ev w2 ⟨rfl, hf2⟩
    go_wp2_with fail
    refine (Error_any e _).mono ?_
    rintro ev w3 ⟨rfl, hf3⟩
    go_wp2_with fail
    go_ret
    exact ⟨rfl, (hf1.no hf2).no hf3⟩
  rw [if_neg hat]
  have hW := wordB_size e
  have hI := itoa_size at_ h0 h1
  have hE := Error_any e
  have hT := Itoa_any at_ h0 h1
  generalize ByteArray.mk (Lib.itoa at_).toArray = I at hI hT ⊢
  generalize wordB e = V at hW hE ⊢
  have s1 : (9223372036854775807 < V.size + 4) = False := by simp; omega
  have s2 : (9223372036854775807 < V.size + 4 + I.size) = False := by simp; omega
  rw [← ByteArray.append_assoc]
  clear hW hI
  go_enter Tryd.func17, Tryd.ntmps17
  go_wp2_with fail
  refine (Errno_any h hg).mono ?_
  rintro ev w1 ⟨rfl, hf1⟩
  have p1 := h.no hf1
  have g1 := hg.no hf1
  go_wp2_with fail
  refine (At_any p1 g1).mono ?_
  rintro ev w2 ⟨rfl, hf2⟩
  have p2 := p1.no hf2
  have hf := hf1.no hf2
  go_wp2_with fail
  refine (Is_any _ b e at_ p2).mono ?_
  rintro ev w3 ⟨rfl, hf3⟩
  have t3 := (ht.no hf).no hf3
  go_wp2_with fail
  refine (hE _).mono ?_
  rintro ev w4 ⟨rfl, hf4⟩
  have t4 := t3.no hf4
  go_wp2_with fail
  refine (hT _ t4).mono ?_
  rintro ev w5 ⟨rfl, hf5⟩
  go_wp2_with fail
  go_ret
  exact ⟨rfl, ((hf.no hf3).no hf4).no hf5⟩
end Go.Proofs.YteicdilbmaboiaaDoor
