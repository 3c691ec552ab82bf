/- The errors' words: seal.names, (told).Error, astragalref16.Name, Digits, ahead. -/
import Derived.Test.YteicdilbmaboiaaDoorSealErr
import Derived.Lib.ItoaLen
namespace Go.Proofs.YteicdilbmaboiaaDoor
set_option maxRecDepth 100000
set_option linter.unusedVariables false
set_option linter.unusedSimpArgs false
open Go.RowKit

/-- the names -/
def nameS : List ByteArray := [⟨#[111,107]⟩, ⟨#[97,114,103]⟩, ⟨#[100,111,109,97,105,110]⟩, ⟨#[115,104,111,114,116]⟩, ⟨#[108,111,110,103]⟩, ⟨#[102,111,114,109]⟩, ⟨#[107,105,110,100]⟩, ⟨#[101,120,104,97,117,115,116,101,100]⟩, ⟨#[122,101,114,111]⟩, ⟨#[111,118,101,114]⟩, ⟨#[110,105,108]⟩, ⟨#[104,97,110,100,108,101]⟩, ⟨#[102,117,108,108]⟩, ⟨#[115,101,101,100]⟩, ⟨#[115,117,109]⟩, ⟨#[115,97,109,101]⟩]
/-- an error's word -/
def wordB (e : Int) : ByteArray := if e < 0 ∨ 16 ≤ e then ⟨#[63]⟩ else nameS.getD e.toNat ⟨#[]⟩
theorem wordB_size (e : Int) : (wordB e).size ≤ 9 := by
  unfold wordB
  split
  · decide
  · have h : e.toNat < 16 := by omega
    generalize e.toNat = i at h
    revert i
    decide
/-- In block b lie the names. -/
def Names (w : World) (b : Nat) : Prop := w.heap[b]? = some (.cells (nameS.map Value.string).toArray 9 (0, 0))
theorem Names.at_ {w : World} {b : Nat} (h : Names w b) (i : Nat) (hi : i < 16) : w.cell? ⟨b, i, none⟩ = some (.string (nameS.getD i ⟨#[]⟩)) := by
  rw [cell_of_row w b i _ _ _ h]
  have hl : i < nameS.length := hi
  simp [List.getElem?_eq_getElem hl]
theorem names_any (w : World) : Calls Tryd.prog 38 #[] w fun e w' => ∃ b, e = .returned (.slice (some ⟨b, 0, none⟩) 16 16) ∧ Names w' b ∧ Fr No w w' := by
  go_enter Tryd.func38, Tryd.ntmps38
  go_wp2
  go_ret
  exact ⟨w.heap.size, rfl, heap_alloc_new w _, (Fr.refl No w).alloc _⟩
theorem Error_any (e : Int) (w : World) : Calls Tryd.prog 27 #[.int .i64 e] w (GivesNew (.string (wordB e)) w) := by
  by_cases i1 : e < 0
  · have hw : wordB e = ⟨#[63]⟩ := by unfold wordB; rw [if_pos (.inl i1)]
    rw [hw]; clear hw
    go_enter Tryd.func27, Tryd.ntmps27
    go_wp2_with fail
    refine (names_any _).mono ?_
    rintro ev w1 ⟨b, rfl, hn, hf⟩
    go_wp2_with fail
    go_ret
    exact ⟨rfl, hf⟩
  by_cases i2 : (16 : Int) ≤ e
  · have hw : wordB e = ⟨#[63]⟩ := by unfold wordB; rw [if_pos (.inr i2)]
    rw [hw]; clear hw
    go_enter Tryd.func27, Tryd.ntmps27
    go_wp2_with fail
    refine (names_any _).mono ?_
    rintro ev w1 ⟨b, rfl, hn, hf⟩
    go_wp2_with fail
    go_ret
    exact ⟨rfl, hf⟩
  obtain ⟨i, rfl⟩ : ∃ i : Nat, e = i := ⟨e.toNat, by omega⟩
  have i3 : i < 16 := by omega
  have hw : wordB i = nameS.getD i ⟨#[]⟩ := by unfold wordB; rw [if_neg (by omega)]; rfl
  rw [hw]; clear hw
  go_enter Tryd.func27, Tryd.ntmps27
  go_wp2_with fail
  refine (names_any _).mono ?_
  rintro ev w1 ⟨b, rfl, hn, hf⟩
  have hc := hn.at_ i i3
  go_wp2_with fail
  go_ret
  exact ⟨rfl, hf⟩
theorem Name_any (e : Int) (w : World) : Calls Tryd.prog 18 #[.int .i64 e] w (GivesNew (.string (wordB e)) w) := by
  have hn : Names (w.alloc (.cells (nameS.map Value.string).toArray 9)) w.heap.size := heap_alloc_new w _
  have hf : Fr No w (w.alloc (.cells (nameS.map Value.string).toArray 9)) := (Fr.refl No w).alloc _
  by_cases i1 : e < 0
  · have hw : wordB e = ⟨#[63]⟩ := by unfold wordB; rw [if_pos (.inl i1)]
    rw [hw]; clear hw
    go_enter Tryd.func18, Tryd.ntmps18
    go_wp2_with fail
    go_ret
    exact ⟨rfl, hf⟩
  by_cases i2 : (16 : Int) ≤ e
  · have hw : wordB e = ⟨#[63]⟩ := by unfold wordB; rw [if_pos (.inr i2)]
    rw [hw]; clear hw
    go_enter Tryd.func18, Tryd.ntmps18
    go_wp2_with fail
    go_ret
    exact ⟨rfl, hf⟩
  obtain ⟨i, rfl⟩ : ∃ i : Nat, e = i := ⟨e.toNat, by omega⟩
  have i3 : i < 16 := by omega
  have hw : wordB i = nameS.getD i ⟨#[]⟩ := by unfold wordB; rw [if_neg (by omega)]; rfl
  rw [hw]; clear hw
  have hc := hn.at_ i i3
  generalize nameS.getD i ⟨#[]⟩ = z at hc ⊢
  simp only [nameS, List.map] at hc hf hn
  go_enter Tryd.func18, Tryd.ntmps18
  go_wp2_with fail
  go_ret
  exact ⟨rfl, hf⟩

open Go.Lib in
theorem dlen (u : Nat) (h : u ≤ 9223372036854775808) : (decDigits u).length ≤ 20 := by rw [decDigits_length]; exact nDigits_le20 u (by omega)

section
open Go.Lib
/-- the walk's last digit -/
def dg8 (n : Nat) : BitVec 8 := BitVec.setWidth 8 (48#64 + O64 ((n : Int) % 10))
theorem dg8_toNat (n : Nat) : (dg8 n).toNat = 48 + n % 10 := by
  unfold dg8 O64
  simp only [BitVec.toNat_setWidth, BitVec.toNat_add, BitVec.toNat_ofNat, BitVec.toNat_ofInt]
  omega
theorem str_dg8 (n : Nat) : str [dg8 n] = ⟨#[UInt8.ofNat (48 + n % 10)]⟩ := by
  have h : UInt8.ofBitVec (dg8 n) = UInt8.ofNat (48 + n % 10) := by
    exact congrArg UInt8.ofBitVec (BitVec.eq_of_toNat_eq (y := BitVec.ofNat 8 (48 + n % 10)) (by rw [dg8_toNat, BitVec.toNat_ofNat]; omega))
  unfold str
  simp [h]
theorem dec_str (n : Nat) (h : ¬ n < 10) : (⟨(decDigits n).toArray⟩ : ByteArray) = ⟨(decDigits (n / 10)).toArray⟩ ++ str [dg8 n] := by
  have e : (⟨#[UInt8.ofNat (48 + n % 10)]⟩ : ByteArray) = ⟨[UInt8.ofNat (48 + n % 10)].toArray⟩ := rfl
  rw [decDigits, dif_neg h, str_dg8, e, ByteArray.mk_append_mk]
theorem dec_str1 (n : Nat) (h : n < 10) : (⟨(decDigits n).toArray⟩ : ByteArray) = str [dg8 n] := by
  rw [decDigits, dif_pos h, str_dg8, Nat.mod_eq_of_lt h]
theorem dg_bytes (W : World) (T : TypeId) (x : BitVec 8) : IsBytes (W.alloc (.cells #[.int .u8 (B8 x)] T)) (some ⟨W.heap.size, 0, none⟩) 1 1 [x] := by
  refine ⟨rfl, Nat.le_refl _, by omega, (fun h => nomatch h), fun i hi => ?_⟩
  obtain rfl : i = 0 := by omega
  refine ⟨_, _, rfl, ?_⟩
  rw [cell_of_row _ _ _ _ _ _ (heap_alloc_new W _)]
  rfl
theorem ahead_any : ∀ (n : Nat) (hn : n ≤ 9223372036854775808) (w : World), Calls Tryd.prog 30 #[.int .u64 (n : Int)] w (GivesNew (.string ⟨(decDigits n).toArray⟩) w) := by
  intro n
  induction n using Nat.strongRecOn with
  | _ n ih =>
    intro hn w
    have hb := dg_bytes w 5 (dg8 n)
    have hf := (Fr.refl No w).alloc (.cells #[.int .u8 (B8 (dg8 n))] 5)
    have r6 := run_string_of hb
    clear hb
    have hB : (str [dg8 n]).size = 1 := by rw [str_dg8]; rfl
    by_cases hs : n < 10
    · have i1 : (n : Int) < 10 := by omega
      rw [dec_str1 n hs]
      generalize str [dg8 n] = B at r6 hB ⊢
      unfold dg8 at r6 hf
      clear hs ih
      go_enter Tryd.func30, Tryd.ntmps30
      go_wp2_with fail
      go_ret
      exact ⟨rfl, hf⟩
    · have i1 : ¬ (n : Int) < 10 := by omega
      have ih' := ih (n / 10) (by omega) (by omega)
      have hA : (ByteArray.mk (decDigits (n / 10)).toArray).size ≤ 20 := by show (decDigits (n / 10)).toArray.size ≤ 20; simpa using dlen (n / 10) (by omega)
      rw [dec_str n hs]
      generalize ByteArray.mk (decDigits (n / 10)).toArray = A at ih' hA ⊢
      generalize str [dg8 n] = B at r6 hB ⊢
      unfold dg8 at r6 hf
      have i2 : (9223372036854775807 < A.size + B.size) = False := by simp; omega
      have e4 : W64 (O64 ((n : Int) / 10)) = ((n / 10 : Nat) : Int) := by rw [← wrapu64, wrapu64_raw]; omega
      generalize n / 10 = q at ih' e4
      clear hs ih hA hB
      go_enter Tryd.func30, Tryd.ntmps30
      go_wp2_with fail
      refine (ih' _).mono ?_
      rintro ev w2 ⟨rfl, hf2⟩
      go_wp2_with fail
      go_ret
      exact ⟨rfl, hf.no hf2⟩
end
section
open Go.Lib
theorem itoa_size (n : Int) (h0 : -9223372036854775808 ≤ n) (h1 : n ≤ 9223372036854775807) : (ByteArray.mk (itoa n).toArray).size ≤ 21 := by
  show (itoa n).toArray.size ≤ 21
  simpa using itoa_length_le n h0 h1
theorem Digits_any (n : Int) (h0 : -9223372036854775808 ≤ n) (h1 : n ≤ 9223372036854775807) (w : World) : Calls Tryd.prog 19 #[.int .i64 n] w (GivesNew (.string ⟨(itoa n).toArray⟩) w) := by
  by_cases hneg : n < 0
  · obtain ⟨u, rfl⟩ : ∃ u : Nat, n = -(u : Int) := ⟨n.natAbs, by omega⟩
    have hA : (ByteArray.mk (decDigits u).toArray).size ≤ 20 := by show (decDigits u).toArray.size ≤ 20; simpa using dlen u (by omega)
    have e1 : (⟨(itoa (-(u : Int))).toArray⟩ : ByteArray) = ⟨#[45]⟩ ++ ⟨(decDigits u).toArray⟩ := by
      have e : (⟨#[45]⟩ : ByteArray) = ⟨[45].toArray⟩ := rfl
      rw [itoa_neg u (by omega), e, ByteArray.mk_append_mk]; rfl
    have ha := ahead_any u (by omega)
    rw [e1]
    generalize ByteArray.mk (decDigits u).toArray = A at ha hA ⊢
    have hB : (ByteArray.mk #[45]).size = 1 := rfl
    have i2 : (9223372036854775807 < 1 + A.size) = False := by simp; omega
    have e4 : W64 (O64 (-(-(u : Int) + 1)) + 1#64) = (u : Int) := by
      unfold W64 O64
      simp only [BitVec.toNat_add, BitVec.toNat_ofNat, BitVec.toNat_ofInt]
      omega
    clear e1 hA
    go_enter Tryd.func19, Tryd.ntmps19
    go_wp2_with fail
    refine (ha _).mono ?_
    rintro ev w2 ⟨rfl, hf2⟩
    go_wp2_with fail
    go_ret
    exact ⟨rfl, hf2⟩
  · obtain ⟨u, rfl⟩ : ∃ u : Nat, n = u := ⟨n.toNat, by omega⟩
    have e4 : W64 (BitVec.ofNat 64 u) = (u : Int) := by unfold W64; rw [BitVec.toNat_ofNat]; omega
    have ha := ahead_any u (by omega)
    rw [itoa_nonneg]
    generalize ByteArray.mk (decDigits u).toArray = A at ha ⊢
    go_enter Tryd.func19, Tryd.ntmps19
    go_wp2_with fail
    refine (ha _).mono ?_
    rintro ev w2 ⟨rfl, hf2⟩
    go_wp2_with fail
    go_ret
    exact ⟨rfl, hf2⟩
end
end Go.Proofs.YteicdilbmaboiaaDoor
