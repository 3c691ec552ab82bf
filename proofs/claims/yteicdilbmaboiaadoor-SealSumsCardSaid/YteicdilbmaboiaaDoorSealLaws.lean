/- SealSums', SealOpens' walks. -/
import Derived.Test.YteicdilbmaboiaaDoorSealErr
namespace Go.Proofs.YteicdilbmaboiaaDoor
set_option maxRecDepth 100000
set_option linter.unusedVariables false
set_option linter.unusedSimpArgs false
open Go.RowKit

set_option maxHeartbeats 1000000 in
theorem SealSums_yes (a1 : Option Addr) (n1 c1 : Nat) (l1 : Bytes) (w : World) (h : IsBytes w a1 n1 c1 l1) (hg : ErrT w) :
    Calls Tryd.prog 3 #[.slice a1 n1 c1] w (Yes w) := by
  by_cases hbig : 3000 < n1
  · have i1 : (3000 : Int) < (n1 : Int) := by omega
    clear h hbig
    go_enter Tryd.func3, Tryd.ntmps3
    go_wp2_with fail
    refine (awake16_yes _ hg).mono ?_
    rintro e w1 ⟨rfl, hf1⟩
    go_wp2_with fail
    go_ret
    exact ⟨rfl, hf1⟩
  have i1 : (n1 : Int) ≤ 3000 := by omega
  have m1 : n1 ≤ 3000 := by omega
  clear hbig
  go_enter Tryd.func3, Tryd.ntmps3
  go_wp2_with fail
  refine (awake16_yes _ hg).mono ?_
  rintro e w1 ⟨rfl, hf1⟩
  have h1 := h.no hf1
  go_wp2_with fail
  refine (Open_any _ _ _ l1 _ h1 (by omega)).mono ?_
  rintro e w2 ⟨v2, rfl, ho2, hf2⟩
  obtain ⟨a2, c2, rfl, hb2, _⟩ := ho2.bytes
  have h2 := h1.no hf2
  go_wp2_with fail
  refine (refOpen_any _ _ _ l1 _ h2 (by omega)).mono ?_
  rintro e w3 ⟨a3, n3, c3, rfl, hst, hf3⟩
  have h3 := h2.no hf3
  have hb3 := hb2.no hf3
  obtain ⟨code, hcode⟩ : ∃ z, z = (openF l1).2 := ⟨_, rfl⟩
  rw [← hcode]
  clear hcode
  go_wp2_with fail
  refine (Sum_any _ _ _ l1 _ h3).mono ?_
  rintro e w' ⟨rfl, rfl⟩
  go_wp2_with fail
  refine (refSum_any _ _ _ l1 _ h3).mono ?_
  rintro e w' ⟨rfl, rfl⟩
  go_wp2_with fail
  refine (Seal_any _ _ _ l1 _ h3 (by omega)).mono ?_
  rintro e w4 ⟨v4, rfl, ho4, hf4⟩
  obtain ⟨a4, c4, rfl, hb4, _⟩ := ho4.bytes
  have h4 := h3.no hf4
  go_wp2_with fail
  refine (refSeal_any _ _ _ l1 _ h4 (by omega)).mono ?_
  rintro e w5 ⟨v5, rfl, ho5, hf5⟩
  obtain ⟨a5, c5, rfl, hb5, _⟩ := ho5.bytes
  have h5 := h4.no hf5
  go_wp2_with fail
  refine (refSame_any _ _ _ (sealF l1) _ _ _ (sealF l1) _ (hb4.no hf5) hb5).mono ?_
  rintro e w' ⟨rfl, rfl⟩
  rw [BEq.rfl]
  go_wp2_with fail
  refine (refSame_any _ _ _ (openF l1).1 _ _ _ (openF l1).1 _ ((hb3.no hf4).no hf5) (hst _ h5)).mono ?_
  rintro e w' ⟨rfl, rfl⟩
  rw [BEq.rfl]
  go_wp2_with fail
  go_ret
  exact ⟨rfl, (((hf1.no hf2).no hf3).no hf4).no hf5⟩
theorem Owns.row {w : World} {base : Nat} {v : Value} {l : Bytes} (h : Owns w base v l) (hl : 0 < l.length) :
    ∃ g c cur, v = .slice (some ⟨g, 0, none⟩) l.length c ∧ base ≤ g ∧ w.heap[g]? = some (.cells cur 5 (0, 0)) ∧ ∀ i, i < l.length → cur[i]? = some (.int .u8 (B8 (l.getD i 0))) := by
  rcases h.2 with ⟨_, hn⟩ | ⟨g, cap, cur, rfl, hb, hg, hnc, hcm, hcs, ht⟩
  · omega
  · refine ⟨g, cap, cur, rfl, hb, hg, fun i hi => ?_⟩
    have h1 : cur.toList[i]? = (l.map cellB)[i]? := by rw [← ht, Nat.mul_one, List.getElem?_take, if_pos hi]
    rw [← Array.getElem?_toList, h1, List.getElem?_map, List.getD_eq_getElem?_getD, List.getElem?_eq_getElem hi]; rfl
theorem b8_zero (x : BitVec 8) : (B8 x == 0) = (x == 0#8) := by
  have h : (0 : Int) = B8 0#8 := rfl
  rw [h]
  cases hx : (x == 0#8) with
  | true => rw [beq_iff_eq] at hx; rw [hx]; rfl
  | false =>
    rw [beq_eq_false_iff_ne] at hx ⊢
    intro e
    rw [B8_inj] at e
    exact hx e
@[go_sem] theorem bits_xor8 (a b : Int) : bits .xor .u8 a b = B8 (O8 a ^^^ O8 b) := by
  show IntKind.u8.wrap ((BitVec.ofInt 8 a ^^^ BitVec.ofInt 8 b).toNat : Int) = _
  rw [wrapu8, O8_nat, BitVec.ofNat_toNat, BitVec.setWidth_eq]; rfl
theorem isBytes_set {w : World} {g c : Nat} {cur : Array Value} {T : TypeId} {l : Bytes} (hc : l.length ≤ c) (hc2 : c ≤ 9223372036854775807) (hg : w.heap[g]? = some (.cells cur T (0, 0))) (hcur : ∀ i, i < l.length → cur[i]? = some (.int .u8 (B8 (l.getD i 0)))) (k : Nat) (hk : k < l.length) (y : BitVec 8) :
    IsBytes (w.setCell ⟨g, k, none⟩ (.int .u8 (B8 y))) (some ⟨g, 0, none⟩) l.length c (l.set k y) := by
  refine ⟨by rw [List.length_set], hc, hc2, (fun e => by cases e), fun i hi => ⟨g, 0, rfl, ?_⟩⟩
  rw [cell_of_row _ g (0 + i) _ _ _ (heap_setCell_same w g k _ _ _ hg), Nat.zero_add, Array.getElem?_setIfInBounds]
  have hks : k < cur.size := by
    have := hcur k hk
    exact (Array.getElem?_eq_some_iff.1 this).1
  by_cases e : k = i
  · subst e
    rw [if_pos rfl, if_pos hks, List.getD_eq_getElem?_getD, List.getElem?_set_self hk]; rfl
  · rw [if_neg e, hcur i hi, List.getD_eq_getElem?_getD, List.getD_eq_getElem?_getD, List.getElem?_set_ne e]
theorem openF_seal (l : Bytes) : openF (sealF l) = (l, 0) := by rw [openF_yes (by rw [sealF_length]; omega) (seal_sealed l), seal_take]
theorem openF_set (l : Bytes) (i : Nat) (hi : i < (sealF l).length) (x : BitVec 8) (hx : x ≠ 0#8) : openF ((sealF l).set i ((sealF l).getD i 0 ^^^ x)) = ([], 14) := by
  have e : (sealF l).getD i 0 = (sealF l)[i] := by rw [List.getD_eq_getElem?_getD, List.getElem?_eq_getElem hi]; rfl
  rw [e]
  exact openF_no (by rw [List.length_set, sealF_length]; omega) (sealed_set l i hi _ (xor_ne _ x hx))
set_option maxHeartbeats 2000000 in
theorem SealOpens_yes (a1 : Option Addr) (n1 c1 : Nat) (l1 : Bytes) (at_ : Int) (x : BitVec 8) (w : World) (h : IsBytes w a1 n1 c1 l1) (hg : ErrT w) (hat : at_ ≤ 9223372036854775807) :
    Calls Tryd.prog 4 #[.slice a1 n1 c1, .int .i64 at_, .int .u8 (B8 x)] w (Yes w) := by
  by_cases hbig : 3000 < n1
  · have i1 : (3000 : Int) < (n1 : Int) := by omega
    clear h hbig
    go_enter Tryd.func4, Tryd.ntmps4
    go_wp2_with fail
    refine (awake16_yes _ hg).mono ?_
    rintro e w1 ⟨rfl, hf1⟩
    go_wp2_with fail
    go_ret
    exact ⟨rfl, hf1⟩
  have i1 : (n1 : Int) ≤ 3000 := by omega
  have m1 : n1 ≤ 3000 := by omega
  have hlen := Lib.hid h.1
  clear hbig
  go_enter Tryd.func4, Tryd.ntmps4
  go_wp2_with fail
  refine (awake16_yes _ hg).mono ?_
  rintro e w1 ⟨rfl, hf1⟩
  have h1 := h.no hf1
  go_wp2_with fail
  refine (Seal_any _ _ _ l1 _ h1 (by omega)).mono ?_
  rintro e w2 ⟨v2, rfl, ho2, hf2⟩
  obtain ⟨a2, c2, rfl, hb2, _⟩ := ho2.bytes
  have HL : Hid ((sealF l1).length = n1 + 4) := by show _ = _; rw [sealF_length, hlen.out]
  rw [HL.out] at hb2 ⊢
  have h2 := h1.no hf2
  go_wp2_with fail
  refine (Open_any _ _ _ (sealF l1) _ hb2 (by omega)).mono ?_
  rw [show GivesOpen (sealF l1) w2 = (fun e w' => ∃ v, e = .returned (.tuple #[v, .int .i64 0]) ∧ Owns w' w2.heap.size v l1 ∧ Fr No w2 w') from by unfold GivesOpen; rw [openF_seal]]
  rintro e w3 ⟨v3, rfl, ho3, hf3⟩
  obtain ⟨a3, c3, rfl, hb3, _⟩ := ho3.bytes
  have h3 := h2.no hf3
  have hb2' := hb2.no hf3
  go_wp2_with fail
  refine (refSame_any _ _ _ l1 _ _ _ l1 _ hb3 h3).mono ?_
  rintro e w' ⟨rfl, rfl⟩
  rw [BEq.rfl]
  have en : ((n1 + 4 : Nat) : Int) = (n1 : Int) + 4 := by omega
  by_cases g1 : at_ < 0
  · go_wp2_with fail
    go_ret
    exact ⟨rfl, (hf1.no hf2).no hf3⟩
  by_cases g2 : at_ < (n1 : Int) + 4
  case neg =>
    have g2' : (n1 : Int) + 4 ≤ at_ := by omega
    clear g2
    go_wp2_with fail
    go_ret
    exact ⟨rfl, (hf1.no hf2).no hf3⟩
  obtain ⟨k, rfl⟩ := Int.eq_ofNat_of_zero_le (show 0 ≤ at_ by omega)
  cases hx : (x == 0#8) with
  | true =>
    have hx0 : (B8 x == 0) = true := by rw [b8_zero, hx]
    clear hx
    go_wp2_with fail
    go_ret
    exact ⟨rfl, (hf1.no hf2).no hf3⟩
  | false =>
    have hx0 : (B8 x == 0) = false := by rw [b8_zero, hx]
    have hxn : Hid (x ≠ 0#8) := Lib.hid (by rw [beq_eq_false_iff_ne] at hx; exact hx)
    clear hx
    have hkn : k < n1 + 4 := by omega
    go_wp2_with (refine wpList_append_bytes _ _ _ _ (.tmp 53) (.tmp 54) w3.heap.size _ [] rfl (Owns.nil _ _) _ _ _ (sealF l1) rfl hb2' (by simp; omega) (Nat.le_refl _) ?_; intro v5 w5 hown5 hfr5 _; have hf5 : Fr No w3 w5 := (Fr.refl No w3).append hfr5 (Owns.nil w3 w3.heap.size) (Nat.le_refl _); rw [List.nil_append] at hown5; refine Hid.out ?_)
    refine Lib.hid ?_
    obtain ⟨g, c5, cur, rfl, hge, hgr, hcur⟩ := hown5.row (by rw [HL.out]; omega)
    have hbd := hown5.isBytes
    have hkl : k < (sealF l1).length := by rw [HL.out]; exact hkn
    have hck : w5.cell? ⟨g, k, none⟩ = some (.int .u8 (B8 ((sealF l1).getD k 0))) := by rw [cell_of_row w5 g k _ _ _ hgr]; exact hcur k hkl
    have hfk := frozen_of_row w5 g k _ _ hgr
    have hset := isBytes_set hbd.2.1 hbd.2.2.1 hgr hcur k hkl ((sealF l1).getD k 0 ^^^ x)
    have hfs : Fr No w3 (w5.setCell ⟨g, k, none⟩ (.int .u8 (B8 ((sealF l1).getD k 0 ^^^ x)))) := hf5.setCell (p := ⟨g, k, none⟩) (.inr hge) _
    have HO := Lib.hid (openF_set l1 k hkl x hxn.out)
    rw [HL.out] at hset ⊢
    have hc5 : n1 + 4 ≤ c5 := hset.2.1
    obtain ⟨y, hy⟩ : ∃ y, y = (sealF l1).getD k 0 := ⟨_, rfl⟩
    rw [← hy] at hck hset hfs HO
    clear hy hown5 hgr hcur hbd hkl
    go_wp2_with fail
    generalize w5.setCell ⟨g, k, none⟩ (.int .u8 (B8 (y ^^^ x))) = w6 at hset hfs ⊢
    clear hck hfk
    refine (Open_any _ _ _ _ _ hset (by omega)).mono ?_
    rw [show GivesOpen ((sealF l1).set k (y ^^^ x)) w6 = (fun e w' => ∃ v, e = .returned (.tuple #[v, .int .i64 14]) ∧ Owns w' w6.heap.size v [] ∧ Fr No w6 w') from by unfold GivesOpen; rw [HO.out]]
    rintro e w7 ⟨v7, rfl, ho7, hf7⟩
    obtain ⟨a7, c7, rfl, _, _⟩ := ho7.bytes
    go_wp2_with fail
    go_ret
    exact ⟨rfl, (((hf1.no hf2).no hf3).no hfs).no hf7⟩
theorem sealOpens_w (a1 : Option Addr) (n1 c1 : Nat) (l1 : Bytes) (at_ : Int) (x : BitVec 8) (w : World) (h : IsBytes w a1 n1 c1 l1) (_ : -9223372036854775808 ≤ at_) (hat : at_ ≤ 9223372036854775807) (hg : ErrT w) :
    Calls Tryd.prog 4 #[.slice a1 n1 c1, .int .i64 at_, .int .u8 (B8 x)] w (Yes w) :=
  SealOpens_yes a1 n1 c1 l1 at_ x w h hg hat
end Go.Proofs.YteicdilbmaboiaaDoor
