/- seal.Sum, Seal, Open, and the reference's: what they compute. -/
import Derived.Test.YteicdilbmaboiaaDoorSealPlain
import Derived.Test.YteicdilbmaboiaaDoorMix
import Derived.Test.YteicdilbmaboiaaDoorLoad
import Derived.Test.YteicdilbmaboiaaDoorPut
import Derived.Test.YteicdilbmaboiaaDoorWords2
namespace Go.Proofs.YteicdilbmaboiaaDoor
set_option maxRecDepth 100000
set_option linter.unusedVariables false
set_option linter.unusedSimpArgs false
open Go.RowKit

/-- What is opened: the bytes, and what is wrong. -/
def openF (l : Bytes) : Bytes × Int := if l.length < 4 then ([], 3) else if sealedB l then (l.take (l.length - 4), 0) else ([], 14)
theorem openF_short {l : Bytes} (h : l.length < 4) : openF l = ([], 3) := by unfold openF; rw [if_pos h]
theorem openF_yes {l : Bytes} (h : ¬ l.length < 4) (k : sealedB l = true) : openF l = (l.take (l.length - 4), 0) := by unfold openF; rw [if_neg h, if_pos k]
theorem openF_no {l : Bytes} (h : ¬ l.length < 4) (k : sealedB l = false) : openF l = ([], 14) := by unfold openF; rw [if_neg h, if_neg (by simp [k])]
theorem narrow_len (n : Nat) : BitVec.setWidth 32 (BitVec.ofNat 64 n % 4294967296#64) = BitVec.ofNat 32 n := by
  apply BitVec.eq_of_toNat_eq
  rw [BitVec.toNat_setWidth, BitVec.toNat_umod, BitVec.toNat_ofNat, BitVec.toNat_ofNat, BitVec.toNat_ofNat, show (4294967296 : Nat) % 2 ^ 64 = 4294967296 from by decide, show (2 : Nat) ^ 64 = 18446744073709551616 from by decide, show (2 : Nat) ^ 32 = 4294967296 from by decide]
  omega
set_option maxHeartbeats 1000000 in
theorem Sum_any (a : Option Addr) (n c : Nat) (l : Bytes) (w : World) (h : IsBytes w a n c l) : Calls Tryd.prog 9 #[.slice a n c] w (Gives (.int .u32 (W32 (sumF l))) w) := by
  have hlen := Lib.hid h.1
  unfold sumF
  rw [hlen.out]
  generalize hr : l.foldl sumStep (BitVec.ofNat 32 n) = r
  have HR := Lib.hid hr
  clear hr
  have hc : n ≤ c := h.2.1
  have hc2 : c ≤ 9223372036854775807 := h.2.2.1
  go_enter Tryd.func9, Tryd.ntmps9
  go_wp2
  go_loop [3, 11] (fun u i => ∃ (k : Nat) (g : BitVec 32), k ≤ n ∧ i = .int .i64 k ∧ u = .int .u32 (W32 g) ∧ Hid ((l.drop k).foldl sumStep g = r)) (fun _ i => n - (intOf i).toNat)
  case atStart => exact ⟨0, _, by omega, rfl, rfl, HR⟩
  case round =>
    obtain ⟨k, g, hk, rfl, rfl, hg⟩ := hrel
    by_cases hkn : k < n
    · have i4 : (k : Int) < (n : Int) := by omega
      have hkl : k < l.length := by rw [hlen.out]; exact hkn
      obtain ⟨b, off, hbo, hcell⟩ := h.known (by omega)
      have hc0 := hcell k hkn
      have hd := Lib.hid (List.drop_eq_getElem_cons hkl)
      rw [hbo]
      clear hcell hbo
      go_wp2_with fail
      refine (Fmix32_any _ _).mono ?_
      rintro e w' ⟨rfl, rfl⟩
      go_wp2_with fail
      refine ⟨⟨k + 1, sumStep g (l[k]'hkl), by omega, rfl, ?_, ?_⟩, by simp [intOf]; omega⟩
      · rw [sumStep_def]
      · show _ = _
        rw [← hg.out, hd.out, List.foldl_cons]
    · have hkm2 : k = n := by omega
      have i4 : ¬ (k : Int) < (n : Int) := by omega
      have hh : g = r := by have := hg.out; rw [List.drop_eq_nil_of_le (by rw [hlen.out]; omega)] at this; exact this
      rw [hh]
      clear hh hg
      go_wp2_with fail
      go_ret
      exact ⟨rfl, rfl⟩
set_option maxHeartbeats 1000000 in
theorem refSum_any (a : Option Addr) (n c : Nat) (l : Bytes) (w : World) (h : IsBytes w a n c l) : Calls Tryd.prog 10 #[.slice a n c] w (Gives (.int .u32 (W32 (sumF l))) w) := by
  have hlen := Lib.hid h.1
  unfold sumF
  rw [hlen.out]
  generalize hr : l.foldl sumStep (BitVec.ofNat 32 n) = r
  have HR := Lib.hid hr
  clear hr
  have hc : n ≤ c := h.2.1
  have hc2 : c ≤ 9223372036854775807 := h.2.2.1
  go_enter Tryd.func10, Tryd.ntmps10
  go_wp2
  rw [narrow_len]
  go_loop [3, 13] (fun u i => ∃ (k : Nat) (g : BitVec 32), k ≤ n ∧ i = .int .i64 k ∧ u = .int .u32 (W32 g) ∧ Hid ((l.drop k).foldl sumStep g = r)) (fun _ i => n - (intOf i).toNat)
  case atStart => exact ⟨0, _, by omega, rfl, rfl, HR⟩
  case round =>
    obtain ⟨k, g, hk, rfl, rfl, hg⟩ := hrel
    by_cases hkn : k < n
    · have i4 : (k : Int) < (n : Int) := by omega
      have hkl : k < l.length := by rw [hlen.out]; exact hkn
      obtain ⟨b, off, hbo, hcell⟩ := h.known (by omega)
      have hc0 := hcell k hkn
      have hd := Lib.hid (List.drop_eq_getElem_cons hkl)
      rw [hbo]
      clear hcell hbo
      go_wp2_with fail
      refine (refFmix32_any _ _).mono ?_
      rintro e w' ⟨rfl, rfl⟩
      go_wp2_with fail
      refine ⟨⟨k + 1, sumStep g (l[k]'hkl), by omega, rfl, ?_, ?_⟩, by simp [intOf]; omega⟩
      · rw [sumStep_def]
      · show _ = _
        rw [← hg.out, hd.out, List.foldl_cons]
    · have hkm2 : k = n := by omega
      have i4 : ¬ (k : Int) < (n : Int) := by omega
      have hh : g = r := by have := hg.out; rw [List.drop_eq_nil_of_le (by rw [hlen.out]; omega)] at this; exact this
      rw [hh]
      clear hh hg
      go_wp2_with fail
      go_ret
      exact ⟨rfl, rfl⟩
theorem Seal_any (a : Option Addr) (n c : Nat) (l : Bytes) (w : World) (h : IsBytes w a n c l) (hr : n + 8 ≤ 140737488355328) : Calls Tryd.prog 12 #[.slice a n c] w (GivesBytes (sealF l) w) := by
  go_enter Tryd.func12, Tryd.ntmps12
  go_wp2_with fail
  refine (Sum_any _ _ _ l _ h).mono ?_
  rintro e w' ⟨rfl, rfl⟩
  go_wp2_with fail
  refine (Put32_any _ _ _ l (sumF l) _ h hr).mono ?_
  rintro e w' ⟨v, rfl, ho, hf⟩
  go_wp2_with fail
  go_ret
  exact ⟨v, rfl, ho, hf⟩
theorem refSeal_any (a : Option Addr) (n c : Nat) (l : Bytes) (w : World) (h : IsBytes w a n c l) (hr : n + 8 ≤ 140737488355328) : Calls Tryd.prog 13 #[.slice a n c] w (GivesBytes (sealF l) w) := by
  go_enter Tryd.func13, Tryd.ntmps13
  go_wp2_with fail
  refine (refSum_any _ _ _ l _ h).mono ?_
  rintro e w' ⟨rfl, rfl⟩
  go_wp2_with fail
  refine (refBytes_any _ 4 _ (by omega)).mono ?_
  rintro e w1 ⟨v1, rfl, ho1, hf1⟩
  obtain ⟨a1, c1, rfl, hb1, _⟩ := ho1.bytes
  have h1 := h.no hf1
  rw [leb_length] at hb1 ⊢
  go_wp2_with fail
  refine (refBoth_any _ _ _ l _ _ _ _ _ h1 hb1 (by omega)).mono ?_
  rintro e w2 ⟨v2, rfl, ho2, hf2⟩
  go_wp2_with fail
  go_ret
  exact ⟨v2, rfl, ho2.mono hf1.size, hf1.no hf2⟩
/-- It returns what is opened, in new memory. -/
def GivesOpen (l : Bytes) (w : World) (e : Ending) (w' : World) : Prop := ∃ v, e = .returned (.tuple #[v, .int .i64 (openF l).2]) ∧ Owns w' w.heap.size v (openF l).1 ∧ Fr No w w'
/-- It returns what is opened: a part of the bytes that are there. -/
def GivesOpenIn (a : Option Addr) (n c : Nat) (l : Bytes) (w : World) (e : Ending) (w' : World) : Prop :=
  ∃ a' n' c', e = .returned (.tuple #[.slice a' n' c', .int .i64 (openF l).2]) ∧ (∀ w2, IsBytes w2 a n c l → IsBytes w2 a' n' c' (openF l).1) ∧ Fr No w w'
set_option maxHeartbeats 1000000 in
theorem Open_any (a : Option Addr) (n c : Nat) (l : Bytes) (w : World) (h : IsBytes w a n c l) (hr : n ≤ 140737488355328) : Calls Tryd.prog 7 #[.slice a n c] w (GivesOpen l w) := by
  have hlen := Lib.hid h.1
  have hc : n ≤ c := h.2.1
  have hc2 : c ≤ 9223372036854775807 := h.2.2.1
  by_cases h4 : n < 4
  · have HO := Lib.hid (openF_short (l := l) (by rw [hlen.out]; exact h4))
    go_enter Tryd.func7, Tryd.ntmps7
    go_wp2_with fail
    refine (Le32_no _ _ _ _ _ (by omega) (by omega) (by omega)).mono ?_
    rintro e w' ⟨rfl, rfl⟩
    go_wp2_with fail
    go_ret2
    exact ⟨_, by rw [HO.out] <;> rfl, by rw [HO.out]; exact Owns.nil _ _, Fr.refl _ _⟩
  · obtain ⟨p, rfl⟩ : ∃ p, n = p + 4 := ⟨n - 4, by omega⟩
    have e0 : ((p + 4 : Nat) : Int) - 4 = (p : Int) := by omega
    have hcut := h.head p c (n' := p) (c' := c) (by omega) (by omega) (Nat.le_refl _) rfl rfl
    have HT : Hid (l.take (l.length - 4) = l.take p) := by show _ = _; rw [hlen.out]; rfl
    have i1 : (p : Int) ≤ (c : Int) := by omega
    cases hs : sealedB l with
    | true =>
      have HO := Lib.hid (openF_yes (l := l) (by rw [hlen.out]; omega) hs)
      have HE : Hid (sumF (l.take p) = BitVec.setWidth 32 (le ((l.drop p).take 4))) := by
        show _ = _
        unfold sealedB at hs
        rw [beq_iff_eq, HT.out, hlen.out] at hs
        exact hs
      clear hs
      go_enter Tryd.func7, Tryd.ntmps7
      go_wp2_with fail
      try rw [e0]
      refine (Le32_yes _ _ _ l p _ h (by omega) (by omega)).mono ?_
      rintro e w' ⟨rfl, rfl⟩
      rw [Int.toNat_natCast]
      go_wp2_with fail
      refine (Sum_any _ _ _ (l.take p) _ hcut).mono ?_
      rw [HE.out]
      rintro e w' ⟨rfl, rfl⟩
      generalize BitVec.setWidth 32 (le ((l.drop p).take 4)) = y
      go_wp2_with (refine wpList_append_bytes _ _ _ _ _ _ w.heap.size _ [] rfl (Owns.nil _ _) _ _ _ (l.take p) rfl hcut (by simp; omega) (Nat.le_refl _) ?_; intro v1 w1 hown1 hfr1 _)
      go_ret2
      exact ⟨_, by rw [HO.out] <;> rfl, by rw [HO.out, HT.out]; exact hown1, (Fr.refl No w).append hfr1 (Owns.nil w w.heap.size) (Nat.le_refl _)⟩
    | false =>
      have HO := Lib.hid (openF_no (l := l) (by rw [hlen.out]; omega) hs)
      have HE : Hid ((sumF (l.take p) == BitVec.setWidth 32 (le ((l.drop p).take 4))) = false) := by
        show _ = _
        unfold sealedB at hs
        rw [HT.out, hlen.out] at hs
        exact hs
      clear hs
      go_enter Tryd.func7, Tryd.ntmps7
      go_wp2_with fail
      try rw [e0]
      refine (Le32_yes _ _ _ l p _ h (by omega) (by omega)).mono ?_
      rintro e w' ⟨rfl, rfl⟩
      rw [Int.toNat_natCast]
      go_wp2_with fail
      refine (Sum_any _ _ _ (l.take p) _ hcut).mono ?_
      rintro e w' ⟨rfl, rfl⟩
      have hne := HE.out
      generalize BitVec.setWidth 32 (le ((l.drop p).take 4)) = y at hne ⊢
      generalize sumF (l.take p) = z at hne ⊢
      have hne2 : (z != y) = true := by simp [bne, hne]
      go_wp2_with fail
      go_ret2
      exact ⟨_, by rw [HO.out] <;> rfl, by rw [HO.out]; exact Owns.nil _ _, Fr.refl _ _⟩
set_option maxHeartbeats 1000000 in
theorem refOpen_any (a : Option Addr) (n c : Nat) (l : Bytes) (w : World) (h : IsBytes w a n c l) (hr : n + 8 ≤ 140737488355328) : Calls Tryd.prog 8 #[.slice a n c] w (GivesOpenIn a n c l w) := by
  have hlen := Lib.hid h.1
  have hc : n ≤ c := h.2.1
  have hc2 : c ≤ 9223372036854775807 := h.2.2.1
  by_cases h4 : n < 4
  · have HO := Lib.hid (openF_short (l := l) (by rw [hlen.out]; exact h4))
    have i0 : (n : Int) < 4 := by omega
    go_enter Tryd.func8, Tryd.ntmps8
    go_wp2_with fail
    go_ret2
    exact ⟨_, _, _, by rw [HO.out] <;> rfl, fun w2 _ => by rw [HO.out]; exact IsBytes.nil _, Fr.refl _ _⟩
  · obtain ⟨p, rfl⟩ : ∃ p, n = p + 4 := ⟨n - 4, by omega⟩
    have e0 : ((p + 4 : Nat) : Int) - 4 = (p : Int) := by omega
    have hst : ∀ w2, IsBytes w2 a (p + 4) c l → IsBytes w2 (subAddr a 0 c 1) p c (l.take p) := fun w2 h => h.head p c (n' := p) (c' := c) (by omega) (by omega) (Nat.le_refl _) rfl rfl
    have hcut := hst w h
    have HT : Hid (l.take (l.length - 4) = l.take p) := by show _ = _; rw [hlen.out]; rfl
    have i1 : (p : Int) ≤ (c : Int) := by omega
    have i0 : ¬ (((p + 4 : Nat) : Int)) < 4 := by omega
    have HB := Lib.hid (sealed_eq l (by rw [hlen.out]; omega))
    go_enter Tryd.func8, Tryd.ntmps8
    go_wp2_with fail
    refine (refSeal_any _ _ _ (l.take p) _ hcut (by omega)).mono ?_
    rintro e w1 ⟨v1, rfl, ho1, hf1⟩
    obtain ⟨a1, c1, rfl, hb1, _⟩ := ho1.bytes
    have h1 := h.no hf1
    go_wp2_with fail
    refine (refSame_any _ _ _ (sealF (l.take p)) _ _ _ l _ hb1 h1).mono ?_
    rw [← HT.out, HB.out]
    rintro e w' ⟨rfl, rfl⟩
    cases hs : sealedB l with
    | true =>
      have HO := Lib.hid (openF_yes (l := l) (by rw [hlen.out]; omega) hs)
      go_wp2_with fail
      go_ret2
      exact ⟨_, _, _, by rw [HO.out] <;> rfl, fun w2 h => by rw [HO.out, HT.out]; exact hst w2 h, hf1⟩
    | false =>
      have HO := Lib.hid (openF_no (l := l) (by rw [hlen.out]; omega) hs)
      go_wp2_with fail
      go_ret2
      exact ⟨_, _, _, by rw [HO.out] <;> rfl, fun w2 _ => by rw [HO.out]; exact IsBytes.nil _, hf1⟩
end Go.Proofs.YteicdilbmaboiaaDoor
