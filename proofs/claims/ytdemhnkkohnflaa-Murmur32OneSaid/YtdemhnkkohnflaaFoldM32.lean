/- block.Fold[uint32], by any step. -/
import Derived.Test.YtdemhnkkohnflaaStreamM32
namespace Go.Proofs.Ytdemhnkkohnflaa.StM32
set_option linter.unusedVariables false
set_option linter.unusedSimpArgs false
open Go.RowKit

def boxCells (s : ST) : List Value := [.int .u32 (W32 s)]
/-- In block b lies the state s. -/
def BoxAt (w : World) (b : Nat) (s : ST) : Prop := w.heap[b]? = some (.cells (boxCells s).toArray 22 (0, 0))
theorem BoxAt.cell {w : World} {b : Nat} {s : ST} (h : BoxAt w b s) (k : Nat) {v : Value} (hk : (boxCells s)[k]? = some v) : w.cell? ⟨b, k, none⟩ = some v := by
  rw [cell_of_row w b k _ _ _ h, List.getElem?_toArray]; exact hk
theorem BoxAt.frozen {w : World} {b : Nat} {s : ST} (h : BoxAt w b s) (k : Nat) : w.frozen? ⟨b, k, none⟩ = false := frozen_of_row w b k _ _ h
theorem BoxAt.lt {w : World} {b : Nat} {s : ST} (h : BoxAt w b s) : b < w.heap.size := (Array.getElem?_eq_some_iff.1 h).1
theorem BoxAt.fr {F : Nat → Prop} {w w' : World} {b : Nat} {s : ST} (h : BoxAt w b s) (k : Fr F w w') (hF : ¬ F b) : BoxAt w' b s := k.heap hF h
theorem box_put {w : World} {b : Nat} {cs : List Value} (h : w.heap[b]? = some (.cells cs.toArray 22 (0, 0))) (k : Nat) (v : Value) : (w.setCell ⟨b, k, none⟩ v).heap[b]? = some (.cells (cs.set k v).toArray 22 (0, 0)) := by
  rw [heap_setCell_same w b k _ _ v h, List.setIfInBounds_toArray]
/-- It returns the folded state and what is left, in new memory. -/
def GivesFold (r : ST × Bytes) (w : World) (e : Ending) (w' : World) : Prop := ∃ v, e = .returned (.tuple #[(.int .u32 (W32 r.1)), v]) ∧ Owns w' w.heap.size v r.2 ∧ Fr No w w'
theorem own_ge {w : World} {base : Nat} {v : Value} {l : Bytes} (h : Owns w base v l) {x : Nat} (hx : v.ownBlock = some x) : base ≤ x := by
  rcases h.2 with ⟨rfl, _⟩ | ⟨g, cap, cur, rfl, hb, _⟩
  · simp [Value.ownBlock] at hx
  · simp [Value.ownBlock] at hx; omega
/-- At the head of Fold's loop. -/
def FoldAt (G : ST → Bytes → ST) (size : Nat) (w0 : World) (r : ST × Bytes) (u v : Value) (wr : World) (n : Nat) : Prop :=
  ∃ a c l s, u = .int .u32 (W32 s) ∧ v = .slice a n c ∧ IsBytes w0 a n c l ∧ n ≤ 1099511627776 ∧ Fr No w0 wr ∧ foldF G size s l = r
set_option maxHeartbeats 4000000 in
theorem Fold_any (E : World → Prop) (G : ST → Bytes → ST) (sz : Int) (size : Nat) (s : ST) (q : Nat) (a : Option Addr) (n c : Nat) (l : Bytes) (w : World)
    (hkeep : ∀ w', Fr No w w' → E w') (hstep : Hid (Steps E G size q)) (h1 : -9223372036854775808 ≤ sz) (h2 : sz ≤ 9223372036854775807) (hsz : sizeOk sz = size) (h : IsBytes w a n c l) (hn : n ≤ 1099511627776) :
    Calls Try.prog 23 #[.int .i64 sz, (.int .u32 (W32 s)), (.func (.func 24) #[.agg #[]] #[]), .slice a n c] w (GivesFold (foldF G size s l) w) := by
  obtain ⟨r, hr⟩ : ∃ r, r = foldF G size s l := ⟨_, rfl⟩
  rw [← hr]
  have hz1 : 1 ≤ size := by have := sizeOk_bd sz; omega
  have hz2 : size ≤ 64 := by have := sizeOk_bd sz; omega
  go_enter Try.func23, Try.ntmps23
  go_wp2_with (first | (go_at_call 39; refine (sized_any _ _ h1 h2).mono ?_; rintro e w' ⟨rfl, rfl⟩; rw [hsz]) | (go_at_call 40; refine (stepped_any q _).mono ?_; rintro e w' ⟨rfl, rfl⟩))
  have hloop : FoldAt G size w r (.int .u32 (W32 s)) (.slice a n c) w n := ⟨a, c, l, s, rfl, rfl, h, hn, Fr.refl No w, hr.symm⟩
  clear h hn hr hsz
  go_loopw [1, 3] (fun u v wr => ∃ m, FoldAt G size w r u v wr m) (fun _ v _ => match v with | .slice _ m _ => m | _ => 0)
  case atStart => exact ⟨_, hloop⟩
  case round =>
    obtain ⟨m, a', c', l', s', rfl, rfl, hb0, hm', hfr', hr'⟩ := hrel
    clear hloop
    have hb' := hb0.no hfr'
    have hlen' := Lib.hid hb'.1
    have hc' : m ≤ c' := hb'.2.1
    have hc'' : c' ≤ 9223372036854775807 := hb'.2.2.1
    by_cases hlt : size ≤ m
    · have i1 : (size : Int) ≤ (m : Int) := by omega
      have i2 : (size : Int) ≤ (c' : Int) := by omega
      have hcut := Lib.hid (hb'.head size size (n' := size) (c' := size) hlt (Nat.le_refl _) (by omega) rfl rfl)
      go_wp2_with fail
      refine (Clone_any _ _ _ (l'.take size) _ hcut.out (by omega)).mono ?_
      rintro e w2 ⟨v2, rfl, ho2, hf2⟩
      obtain ⟨a2, c2, rfl, hb2, _⟩ := ho2.bytes
      have hl2 : (l'.take size).length = size := by rw [List.length_take, hlen'.out]; omega
      rw [hl2] at hb2 ⊢
      have hL2 := Lib.hid hl2
      clear hl2 ho2
      go_wp2_with fail
      refine (hstep.out _ _ _ _ _ _ (hkeep w2 (hfr'.no hf2)) hb2 hL2.out).mono ?_
      rintro e w3 ⟨rfl, hf3⟩
      have hcut2 := hb0.cut_to_end size (n' := m - size) (c' := c' - size) hlt rfl rfl
      have hfe : Fr No w w3 := (hfr'.no hf2).no hf3
      clear hb2 hcut
      go_wp2_with fail
      go_roundw
      case rel => exact ⟨m - size, _, _, _, _, rfl, rfl, hcut2, by omega, hfe, by rw [← hr']; exact (foldF_step hz1 (by rw [hlen'.out]; exact hlt)).symm⟩
      case measure => simp; omega
    · have i1 : (m : Int) < (size : Int) := by omega
      go_wp2_with fail
      refine (Clone_any _ _ _ l' _ hb' (by omega)).mono ?_
      rintro e w2 ⟨v2, rfl, ho2, hf2⟩
      go_wp2_with fail
      go_ret2
      have hsh : foldF G size s' l' = (s', l') := foldF_short (by rw [hlen'.out]; omega)
      refine ⟨v2, ?_, ?_, ?_⟩
      · rw [← hr', hsh]; rfl
      · rw [← hr', hsh]; exact ho2.mono hfr'.size
      · exact hfr'.no hf2

end Go.Proofs.Ytdemhnkkohnflaa.StM32