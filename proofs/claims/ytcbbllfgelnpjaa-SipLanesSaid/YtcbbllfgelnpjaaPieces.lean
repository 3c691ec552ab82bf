/- Slices of ints; astragalref28.Pieces: bytes cut into pieces. -/
import Derived.Test.YtcbbllfgelnpjaaMem
import Derived.Test.YtcbbllfgelnpjaaGives
namespace Go.Proofs.Ytcbbllfgelnpjaa
set_option linter.unusedVariables false
set_option linter.unusedSimpArgs false
open Go.RowKit

/-- The slice value '.slice a n c' reads as the ints l. -/
def IsInts (w : World) (a : Option Addr) (n c : Nat) (l : List Int) : Prop :=
  l.length = n ∧ n ≤ c ∧ c ≤ 9223372036854775807 ∧ (a = none → c = 0) ∧ ∀ i, i < n → (∃ b off, a = some ⟨b, off, none⟩ ∧ w.cell? ⟨b, off + i, none⟩ = some (.int .i64 (l.getD i 0))) ∧ -9223372036854775808 ≤ l.getD i 0 ∧ l.getD i 0 ≤ 9223372036854775807
theorem IsInts.nil (w : World) : IsInts w none 0 0 [] := ⟨rfl, Nat.le_refl _, by omega, fun _ => rfl, fun i hi => absurd hi (Nat.not_lt_zero _)⟩
theorem IsInts.no {w w' : World} {a : Option Addr} {n c : Nat} {l : List Int} (h : IsInts w a n c l) (k : Fr No w w') : IsInts w' a n c l :=
  ⟨h.1, h.2.1, h.2.2.1, h.2.2.2.1, fun i hi => by
    obtain ⟨⟨b, off, e, hc⟩, h1, h2⟩ := h.2.2.2.2 i hi
    exact ⟨⟨b, off, e, k.cell (p := ⟨b, off + i, none⟩) (fun h => h) hc⟩, h1, h2⟩⟩

/-- v is a part of the bytes, that reads as x. -/
def PieceOf (a : Option Addr) (n c : Nat) (l : Bytes) (v : Value) (x : Bytes) : Prop := ∃ a' n' c', v = .slice a' n' c' ∧ n' ≤ n ∧ ∀ w2, IsBytes w2 a n c l → IsBytes w2 a' n' c' x
/-- Pieces, one behind the other. -/
def AllPieces (a : Option Addr) (n c : Nat) (l : Bytes) (vs : List Value) (xs : List Bytes) : Prop := vs.length = xs.length ∧ ∀ i, i < vs.length → PieceOf a n c l (vs.getD i undef) (xs.getD i [])
theorem AllPieces.snoc {a : Option Addr} {n c : Nat} {l : Bytes} {vs : List Value} {xs : List Bytes} (h : AllPieces a n c l vs xs) {v : Value} {x : Bytes} (hv : PieceOf a n c l v x) : AllPieces a n c l (vs ++ [v]) (xs ++ [x]) := by
  refine ⟨by simp [h.1], fun i hi => ?_⟩
  simp only [List.getD_eq_getElem?_getD]
  by_cases hlt : i < vs.length
  · rw [List.getElem?_append_left hlt, List.getElem?_append_left (by rw [← h.1]; exact hlt)]
    have := h.2 i hlt
    simpa only [List.getD_eq_getElem?_getD] using this
  · have hi' : i = vs.length := by simp at hi; omega
    subst hi'
    rw [List.getElem?_append_right (Nat.le_refl _), List.getElem?_append_right (by rw [h.1]; exact Nat.le_refl _)]
    simpa [h.1] using hv
/-- The slice value v is the call's own and holds the slices vs. -/
def OwnsSl (w : World) (base : Nat) (v : Value) (vs : List Value) : Prop := w.ownsRow base 25 1 v vs.length vs
theorem info_sl : (Try.prog.info? 25).map (fun i => (i.zero, i.size, i.bytes)) = some (some (.slice none 0 0), 1, 24) := by kernel_rfl
section
variable {w : World} {ops : Array Oper} {rest : List Oper} {a : Act} {Q : Exit → Act → World → Prop}
theorem wpList_append_piece (dst : Option Tmp) (ty : TypeId) (pos : String) (aft : Array Edge) (s x : Operand)
    (base : Nat) (v : Value) (vs : List Value) (hs : a.eval s = v) (hown : OwnsSl w base v vs) (b : Nat) (u : Value) (hx : a.eval x = .slice (some ⟨b, 0, none⟩) 1 1) (hc : w.cell? ⟨b, 0, none⟩ = some u) (hu : u.oneCell' = true)
    (hsum : vs.length ≤ 1000) (hbase : base ≤ w.heap.size)
    (h : ∀ v' w', OwnsSl w' base v' (vs ++ [u]) → Fr (fun k => v.ownBlock = some k) w w' → wpList Try.prog ops Q rest (a.put dst v') w') :
    wpList Try.prog ops Q (⟨dst, .call ⟨.builtin .append, #[s, x], #[34, 34]⟩, ty, pos, aft, none⟩ :: rest) a w := by
  obtain ⟨i, hi, hz0, hz1, hz2⟩ := info_parts info_sl
  refine wpList_append_own_at w (by rfl) s x 34 (by rfl) base 25 i (.slice none 0 0) 1 24 Try.underlying34 hi hz0 hz1 hz2 (by rfl) (by decide) v vs.length vs hs hown ⟨b, 0, none⟩ 1 1 [u] hx (by rfl) ?_ ?_ (by unfold maxLen; omega) (by omega) hbase ?_
  · intro j y hj
    match j, hj with
    | 0, hj =>
      obtain rfl : u = y := by simpa using hj
      rw [Addr.add_zero']; exact hc
  · intro y hy
    obtain rfl : y = u := by simpa using hy
    exact hu
  · intro v' w' hown' hg _ _
    refine h v' w' ?_ ⟨hg.os, hg.tape, hg.output, hg.size, fun k hk hne => hg.block k hk fun e => hne e.symm⟩
    unfold OwnsSl
    rw [List.length_append]
    exact hown'
end
theorem OwnsSl.slice {w : World} {base : Nat} {v : Value} {vs : List Value} (h : OwnsSl w base v vs) : ∃ a c, v = .slice a vs.length c ∧ vs.length ≤ c ∧ c ≤ 9223372036854775807 ∧ (∀ i, i < vs.length → ∃ g, a = some ⟨g, 0, none⟩ ∧ base ≤ g ∧ w.cell? ⟨g, i, none⟩ = some (vs.getD i undef)) := by
  rcases h.2 with ⟨rfl, hn⟩ | ⟨g, cap, cur, rfl, hb, hg, hnc, hcm, hcs, ht⟩
  · exact ⟨none, 0, by rw [hn], by omega, by omega, fun i hi => by omega⟩
  · refine ⟨_, _, rfl, hnc, by unfold maxLen at hcm; omega, fun i hi => ⟨g, rfl, hb, ?_⟩⟩
    rw [cell_of_row w g i cur _ _ hg]
    have h1 : cur.toList[i]? = vs[i]? := by
      rw [← ht, Nat.mul_one, List.getElem?_take, if_pos hi]
    rw [← Array.getElem?_toList, h1, List.getD_eq_getElem?_getD, List.getElem?_eq_getElem hi]; rfl
theorem OwnsSl.no {w w' : World} {base : Nat} {v : Value} {vs : List Value} (h : OwnsSl w base v vs) (k : Fr No w w') : OwnsSl w' base v vs := by
  refine ⟨h.1, ?_⟩
  rcases h.2 with hn | ⟨g, cap, cur, e, hb, hg, r⟩
  · exact .inl hn
  · exact .inr ⟨g, cap, cur, e, hb, k.heap (fun h => h) hg, r⟩
theorem OwnsSl.lt {w : World} {base : Nat} {v : Value} {vs : List Value} (h : OwnsSl w base v vs) : ∀ x, v.ownBlock = some x → base ≤ x := fun x hx => (World.ownsRow.lt h x hx).1
/-- It returns pieces that are the bytes, one behind the other. -/
def GivesPieces (a : Option Addr) (n c : Nat) (l : Bytes) (m : Nat) (w : World) (e : Ending) (w' : World) : Prop :=
  ∃ v vs xs, e = .returned v ∧ OwnsSl w' w.heap.size v vs ∧ Fr No w w' ∧ AllPieces a n c l vs xs ∧ xs.flatten = l ∧ vs.length = m + 1
/-- At the head of its loop. -/
def PiecesAt (a : Option Addr) (n c : Nat) (l : Bytes) (m : Nat) (w : World) (b out i : Value) (wr : World) (k : Nat) : Prop :=
  ∃ m' a' c' l' vs xs, k ≤ m ∧ i = .int .i64 k ∧ b = .slice a' m' c' ∧ PieceOf a n c l (.slice a' m' c') l' ∧ IsBytes w a' m' c' l' ∧ OwnsSl wr w.heap.size out vs ∧ vs.length = k ∧ AllPieces a n c l vs xs ∧ xs.flatten ++ l' = l ∧ Fr No w wr
theorem PieceOf.head {a : Option Addr} {n c : Nat} {l : Bytes} {a' : Option Addr} {m' c' : Nat} {l' : Bytes} (h : PieceOf a n c l (.slice a' m' c') l') (z : Nat) (hz : z ≤ m') (hz2 : m' ≤ c') : PieceOf a n c l (.slice (subAddr a' 0 c' 1) z c') (l'.take z) := by
  obtain ⟨a2, m2, c2, e, hle, hp⟩ := h
  cases e
  exact ⟨_, _, _, rfl, by omega, fun w2 h2 => (hp w2 h2).head z c' hz (by omega) (Nat.le_refl _) rfl rfl⟩
theorem PieceOf.rest {a : Option Addr} {n c : Nat} {l : Bytes} {a' : Option Addr} {m' c' : Nat} {l' : Bytes} (h : PieceOf a n c l (.slice a' m' c') l') (z : Nat) (hz : z ≤ m') : PieceOf a n c l (.slice (subAddr a' z c' 1) (m' - z) (c' - z)) (l'.drop z) := by
  obtain ⟨a2, m2, c2, e, hle, hp⟩ := h
  cases e
  exact ⟨_, _, _, rfl, by omega, fun w2 h2 => (hp w2 h2).cut_to_end z hz rfl rfl⟩
theorem PiecesAt.next {a : Option Addr} {n c : Nat} {l : Bytes} {m : Nat} {w w1 : World} {v1 : Value} {k m' c' : Nat} {a' : Option Addr} {l' : Bytes} {vs : List Value} {xs : List Bytes} (z : Nat) (hz : z ≤ m') (hk : k < m)
    (hp : PieceOf a n c l (.slice a' m' c') l') (hb : IsBytes w a' m' c' l') (ho : OwnsSl w1 w.heap.size v1 (vs ++ [.slice (subAddr a' 0 c' 1) z c'])) (hl : vs.length = k) (ha : AllPieces a n c l vs xs) (hx : xs.flatten ++ l' = l) (hf : Fr No w w1) :
    PiecesAt a n c l m w (.slice (subAddr a' z c' 1) (m' - z) (c' - z)) v1 (.int .i64 ((k : Int) + 1)) w1 (k + 1) :=
  ⟨_, _, _, _, _, xs ++ [l'.take z], by omega, by simp, rfl, hp.rest z hz, hb.cut_to_end z hz rfl rfl, ho, by simp [hl], ha.snoc (hp.head z hz hb.2.1), by simp [← hx, List.append_assoc], hf⟩
set_option maxHeartbeats 1000000 in
theorem refPieces_any (a : Option Addr) (n c : Nat) (l : Bytes) (a2 : Option Addr) (m c2 : Nat) (l2 : List Int) (w : World) (h : IsBytes w a n c l) (h2 : IsInts w a2 m c2 l2) (hm : m ≤ 100) :
    Calls Try.prog 13 #[.slice a n c, .slice a2 m c2] w (GivesPieces a n c l m w) := by
  have hP : PiecesAt a n c l m w (.slice a n c) (.slice none 0 0) (.int .i64 0) w 0 :=
    ⟨_, _, _, _, [], [], by omega, rfl, rfl, ⟨_, _, _, rfl, Nat.le_refl _, fun _ h => h⟩, h, World.ownsRow_nil w _ _ 1, rfl, ⟨rfl, fun i hi => by simp at hi⟩, by simp, Fr.refl No w⟩
  have g1 := h2.2.1
  have g2 := h2.2.2.1
  clear h
  go_enter Try.func13, Try.ntmps13
  go_wp2
  go_loopw [0, 5, 11] (fun b out i wr => ∃ k, PiecesAt a n c l m w b out i wr k) (fun _ _ i _ => m - (intOf i).toNat)
  case atStart => exact ⟨0, hP⟩
  case round =>
    obtain ⟨k, m', a', c', l', vs, xs, hk, rfl, rfl, hp, hb, ho, hl, ha, hx, hf⟩ := hrel
    have HL := Lib.hid hl
    have HX := Lib.hid hx
    clear hP hl hx
    have g3 := hb.2.1
    have g4 := hb.2.2.1
    have g5 : vs.length ≤ 1000 := by have := HL.out; omega
    have HB := Lib.hid hb.1
    by_cases hlt : k < m
    · obtain ⟨⟨b, off, rfl, hc⟩, r1, r2⟩ := (h2.no hf).2.2.2.2 k hlt
      have i0 : (k : Int) < (m : Int) := by omega
      generalize l2.getD k 0 = cut at hc r1 r2
      have hbase : w.heap.size ≤ wr.heap.size := hf.size
      rcases (show cut < 0 ∨ (0 ≤ cut ∧ (m' : Int) < cut) ∨ (0 ≤ cut ∧ cut ≤ m') by omega) with j1 | ⟨j1, j2⟩ | ⟨j1, j2⟩
      · have i1 : (0 : Int) ≤ (m' : Int) := by omega
        have hoA : OwnsSl (wr.alloc (.cells #[.slice (subAddr a' 0 c' 1) 0 c'] 25)) w.heap.size _ vs := World.ownsRow.alloc ho _
        go_wp2_with (at_builtin; refine wpList_append_piece _ _ _ _ _ _ w.heap.size _ vs rfl hoA wr.heap.size (.slice (subAddr a' 0 c' 1) 0 c') rfl (by rw [cell_of_row _ wr.heap.size 0 _ _ _ (heap_alloc_new wr _)]; rfl) rfl g5 (by simp; omega) ?_; intro v1 w1 ho1 hf1)
        go_roundw
        case rel => exact ⟨k + 1, PiecesAt.next 0 (by omega) hlt hp hb ho1 HL.out ha HX.out ((hf.alloc _).trans hf1 (fun x hx => .inr (by have := ho.lt x hx; omega)))⟩
        case measure => simp [intOf]; omega
      · have i1 : ¬ cut < 0 := by omega
        have hoA : OwnsSl (wr.alloc (.cells #[.slice (subAddr a' 0 c' 1) m' c'] 25)) w.heap.size _ vs := World.ownsRow.alloc ho _
        go_wp2_with (at_builtin; refine wpList_append_piece _ _ _ _ _ _ w.heap.size _ vs rfl hoA wr.heap.size (.slice (subAddr a' 0 c' 1) m' c') rfl (by rw [cell_of_row _ wr.heap.size 0 _ _ _ (heap_alloc_new wr _)]; rfl) rfl g5 (by simp; omega) ?_; intro v1 w1 ho1 hf1)
        go_roundw
        case rel =>
          have hN := PiecesAt.next m' (by omega) hlt hp hb ho1 HL.out ha HX.out ((hf.alloc _).trans hf1 (fun x hx => .inr (by have := ho.lt x hx; omega)))
          rw [Nat.sub_self] at hN
          exact ⟨k + 1, hN⟩
        case measure => simp [intOf]; omega
      · obtain ⟨z, rfl⟩ := Int.eq_ofNat_of_zero_le j1
        have i1 : ¬ (z : Int) < 0 := by omega
        have i2 : ¬ (m' : Int) < (z : Int) := by omega
        have i3 : (z : Int) ≤ (c' : Int) := by omega
        have hoA : OwnsSl (wr.alloc (.cells #[.slice (subAddr a' 0 c' 1) z c'] 25)) w.heap.size _ vs := World.ownsRow.alloc ho _
        go_wp2_with (at_builtin; refine wpList_append_piece _ _ _ _ _ _ w.heap.size _ vs rfl hoA wr.heap.size (.slice (subAddr a' 0 c' 1) z c') rfl (by rw [cell_of_row _ wr.heap.size 0 _ _ _ (heap_alloc_new wr _)]; rfl) rfl g5 (by simp; omega) ?_; intro v1 w1 ho1 hf1)
        go_roundw
        case rel => exact ⟨k + 1, PiecesAt.next z (by omega) hlt hp hb ho1 HL.out ha HX.out ((hf.alloc _).trans hf1 (fun x hx => .inr (by have := ho.lt x hx; omega)))⟩
        case measure => simp [intOf]; omega
    · have i0 : ¬ (k : Int) < (m : Int) := by omega
      have hkm : k = m := by omega
      have HK := Lib.hid hkm
      clear hkm
      have hoA : OwnsSl (wr.alloc (.cells #[.slice a' m' c'] 25)) w.heap.size _ vs := World.ownsRow.alloc ho _
      have hbase : w.heap.size ≤ wr.heap.size := hf.size
      go_wp2_with (at_builtin; refine wpList_append_piece _ _ _ _ _ _ w.heap.size _ vs rfl hoA wr.heap.size (.slice a' m' c') rfl (by rw [cell_of_row _ wr.heap.size 0 _ _ _ (heap_alloc_new wr _)]; rfl) rfl g5 (by simp; omega) ?_; intro v1 w1 ho1 hf1)
      go_ret
      refine ⟨v1, vs ++ [.slice a' m' c'], xs ++ [l'], rfl, ho1, (hf.alloc _).trans hf1 (fun x hx => .inr (by have := ho.lt x hx; omega)), ha.snoc hp, by simpa using HX.out, ?_⟩
      rw [List.length_append, HL.out, HK.out]; rfl
end Go.Proofs.Ytcbbllfgelnpjaa
