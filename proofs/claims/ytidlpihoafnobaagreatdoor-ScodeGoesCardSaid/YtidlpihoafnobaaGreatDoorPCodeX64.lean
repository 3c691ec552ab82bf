/- Xx64Plain CodeX64 -/
import Derived.Test.YtidlpihoafnobaaGreatDoorPSealErr
set_option linter.unusedVariables false
set_option linter.unusedSimpArgs false
namespace Go.Proofs.YtidlpihoafnobaaGreatDoor.StX64
set_option maxRecDepth 100000
abbrev S4 := BitVec 64 × BitVec 64 × BitVec 64 × BitVec 64
def roundF (v k : BitVec 64) : BitVec 64 := rotl64 (v + k * 14029467366897019727#64) 31 * 11400714785074694791#64
theorem roundF_def (v k : BitVec 64) : rotl64 (v + k * 14029467366897019727#64) 31 * 11400714785074694791#64 = roundF v k := rfl
def num8 (l : Bytes) (i : Nat) : BitVec 64 := le ((l.drop i).take 8)
theorem num8_def (l : Bytes) (i : Nat) : le (List.take 8 (List.drop i l)) = num8 l i := rfl
theorem num8_zero (l : Bytes) : le (List.take 8 l) = num8 l 0 := by unfold num8; rw [List.drop_zero]
def stepTo (s : S4) (l : Bytes) : Nat → S4
 | 0 => s
 | 1 => (roundF s.1 (num8 l 0), s.2.1, s.2.2.1, s.2.2.2)
 | 2 => (roundF s.1 (num8 l 0), roundF s.2.1 (num8 l 8), s.2.2.1, s.2.2.2)
 | 3 => (roundF s.1 (num8 l 0), roundF s.2.1 (num8 l 8), roundF s.2.2.1 (num8 l 16), s.2.2.2)
 | _ => (roundF s.1 (num8 l 0), roundF s.2.1 (num8 l 8), roundF s.2.2.1 (num8 l 16), roundF s.2.2.2 (num8 l 24))
def stepG (s : S4) (l : Bytes) : S4 := stepTo s l 4
def firstF (sd : BitVec 64) : S4 := (sd + 11400714785074694791#64 + 14029467366897019727#64, sd + 14029467366897019727#64, sd, sd - 11400714785074694791#64)
def mergeF (h v : BitVec 64) : BitVec 64 := (h ^^^ roundF 0#64 v) * 11400714785074694791#64 + 9650029242287828579#64
theorem mergeF_def (h v : BitVec 64) : (h ^^^ roundF 0#64 v) * 11400714785074694791#64 + 9650029242287828579#64 = mergeF h v := rfl
def sumF (s : S4) : BitVec 64 := rotl64 s.1 1 + rotl64 s.2.1 7 + rotl64 s.2.2.1 12 + rotl64 s.2.2.2 18
def allTo (s : S4) : Nat → BitVec 64
 | 0 => sumF s
 | 1 => mergeF (sumF s) s.1
 | 2 => mergeF (mergeF (sumF s) s.1) s.2.1
 | 3 => mergeF (mergeF (mergeF (sumF s) s.1) s.2.1) s.2.2.1
 | _ => mergeF (mergeF (mergeF (mergeF (sumF s) s.1) s.2.1) s.2.2.1) s.2.2.2
def allF (s : S4) : BitVec 64 := allTo s 4
def g8 (h : BitVec 64) (l : Bytes) : BitVec 64 := rotl64 (h ^^^ roundF 0#64 (le (l.take 8))) 27 * 11400714785074694791#64 + 9650029242287828579#64
theorem g8_def (h : BitVec 64) (l : Bytes) : rotl64 (h ^^^ roundF 0#64 (le (List.take 8 l))) 27 * 11400714785074694791#64 + 9650029242287828579#64 = g8 h l := rfl
def g4 (h : BitVec 64) (l : Bytes) : BitVec 64 := rotl64 (h ^^^ le (l.take 4) * 11400714785074694791#64) 23 * 14029467366897019727#64 + 1609587929392839161#64
theorem g4_def (h : BitVec 64) (l : Bytes) : rotl64 (h ^^^ le (List.take 4 l) * 11400714785074694791#64) 23 * 14029467366897019727#64 + 1609587929392839161#64 = g4 h l := rfl
def g1 (h : BitVec 64) (b : BitVec 8) : BitVec 64 := rotl64 (h ^^^ b.setWidth 64 * 2870177450012600261#64) 11 * 11400714785074694791#64
theorem g1_def (h : BitVec 64) (b : BitVec 8) : rotl64 (h ^^^ BitVec.setWidth 64 b * 2870177450012600261#64) 11 * 11400714785074694791#64 = g1 h b := rfl
def smallF (h : BitVec 64) (l : Bytes) : BitVec 64 := if 4 ≤ l.length then (l.drop 4).foldl g1 (g4 h l) else l.foldl g1 h
def restF (h : BitVec 64) (l : Bytes) : BitVec 64 := smallF (foldF g8 8 h l).1 (foldF g8 8 h l).2
theorem g8_take (h : BitVec 64) (l : Bytes) : g8 h (l.take 8) = g8 h l := by unfold g8; rw [List.take_take, show min 8 8 = 8 from rfl]
theorem restF_big {h : BitVec 64} {l : Bytes} (hl : 8 ≤ l.length) : restF h l = restF (g8 h l) (l.drop 8) := by unfold restF; rw [foldF_step (by omega) hl, g8_take]
theorem restF_small {h : BitVec 64} {l : Bytes} (hl : l.length < 8) : restF h l = smallF h l := by unfold restF; rw [foldF_short hl]
theorem restF_four {h : BitVec 64} {l : Bytes} (hl : l.length < 8) (h4 : 4 ≤ l.length) : restF h l = restF (g4 h l) (l.drop 4) := by
 rw [restF_small hl, restF_small (by rw [List.length_drop]; omega)]
 unfold smallF
 rw [if_pos h4, if_neg (by rw [List.length_drop]; omega)]
theorem restF_one {h : BitVec 64} {b : BitVec 8} {r : Bytes} (hl : (b :: r).length < 4) : restF h (b :: r) = restF (g1 h b) r := by
 have h2 : r.length < 4 := by simp at hl; omega
 rw [restF_small (by omega), restF_small (by omega)]
 unfold smallF
 rw [if_neg (by omega), if_neg (by omega)]; rfl
theorem restF_nil (h : BitVec 64) : restF h [] = h := by rw [restF_small (by simp)]; rfl
def avalF (h : BitVec 64) : BitVec 64 :=
 ((h ^^^ h / 8589934592#64) * 14029467366897019727#64 ^^^ (h ^^^ h / 8589934592#64) * 14029467366897019727#64 / 536870912#64) * 1609587929392839161#64 ^^^
  ((h ^^^ h / 8589934592#64) * 14029467366897019727#64 ^^^ (h ^^^ h / 8589934592#64) * 14029467366897019727#64 / 536870912#64) * 1609587929392839161#64 / 4294967296#64
theorem avalF_def (h : BitVec 64) : ((h ^^^ h / 8589934592#64) * 14029467366897019727#64 ^^^ (h ^^^ h / 8589934592#64) * 14029467366897019727#64 / 536870912#64) * 1609587929392839161#64 ^^^
 ((h ^^^ h / 8589934592#64) * 14029467366897019727#64 ^^^ (h ^^^ h / 8589934592#64) * 14029467366897019727#64 / 536870912#64) * 1609587929392839161#64 / 4294967296#64 = avalF h := rfl
def headF (sd : BitVec 64) (s : S4) (lo : BitVec 64) : BitVec 64 := if 32 ≤ W64 lo then allF s else sd + 2870177450012600261#64
def endF (sd : BitVec 64) (s : S4) (l : Bytes) (lo : BitVec 64) : BitVec 64 := avalF (restF (headF sd s lo + lo) l)
def oneF (sd : BitVec 64) (l : Bytes) : BitVec 64 := endF sd (foldF stepG 32 (firstF sd) l).1 (foldF stepG 32 (firstF sd) l).2 (BitVec.ofNat 64 l.length)
theorem cons_of {l : Bytes} {n : Nat} (h : l.length = n + 1) : ∃ b r, l = b :: r ∧ r.length = n := by
 cases l with
 | nil => simp at h
 | cons b r => exact ⟨b, r, rfl, by simpa using h⟩
theorem num8_take (l : Bytes) (i : Nat) (h : i + 8 ≤ 32) : num8 (l.take 32) i = num8 l i := by
 unfold num8
 rw [List.drop_take, List.take_take, show min 8 (32 - i) = 8 by omega]
theorem stepG_take (s : S4) (l : Bytes) : stepG s (l.take 32) = stepTo s l 4 := by
 unfold stepG stepTo
 simp only [num8_take l 0 (by omega), num8_take l 8 (by omega), num8_take l 16 (by omega), num8_take l 24 (by omega)]
theorem le_bound (l : Bytes) : ∀ k : Nat, l.length ≤ k → (le l).toNat < 256 ^ k := by
 induction l with
 | nil => intro k _; exact Nat.pow_pos (by omega)
 | cons b r ih =>
  intro k hk
  obtain ⟨k, rfl⟩ : ∃ j, k = j + 1 := ⟨k - 1, by simp at hk; omega⟩
  have h1 := ih k (by simpa using hk)
  have h2 := b.isLt
  have h3 : (le (b :: r)).toNat ≤ b.toNat + (le r).toNat * 256 := by
   show (b.setWidth 64 + le r * 256#64).toNat ≤ _
   rw [BitVec.toNat_add, BitVec.toNat_mul, BitVec.toNat_setWidth]
   refine Nat.le_trans (Nat.mod_le _ _) ?_
   have h4 := Nat.mod_le b.toNat (2 ^ 64)
   have h5 := Nat.mod_le ((le r).toNat * 256) (2 ^ 64)
   have h6 : (256#64).toNat = 256 := rfl
   rw [h6]
   omega
  rw [Nat.pow_succ]
  omega
theorem le4_back (l : Bytes) : BitVec.setWidth 64 (BitVec.setWidth 32 (le (List.take 4 l))) = le (List.take 4 l) := by
 have h := le_bound (l.take 4) 4 (by rw [List.length_take]; omega)
 apply BitVec.eq_of_toNat_eq
 rw [BitVec.toNat_setWidth, BitVec.toNat_setWidth]
 omega
end Go.Proofs.YtidlpihoafnobaaGreatDoor.StX64
namespace Go.Proofs.YtidlpihoafnobaaGreatDoor.StX64
set_option maxRecDepth 100000
open Go.Proofs.YtidlpihoafnobaaGreatDoor.StG64
open Go.RowKit
theorem cS0 (s : ST) : cS s 0 = .int .u64 (W64 s.1) := rfl
theorem cS1 (s : ST) : cS s 1 = .int .u64 (W64 s.2.1) := rfl
theorem cS2 (s : ST) : cS s 2 = .int .u64 (W64 s.2.2.1) := rfl
theorem cS3 (s : ST) : cS s 3 = .int .u64 (W64 s.2.2.2) := rfl
theorem box_row {w : World} {b : Nat} {s : ST} (h : BoxAt w b s) : Row4 w b 31 (.int .u64 (W64 s.1)) (.int .u64 (W64 s.2.1)) (.int .u64 (W64 s.2.2.1)) (.int .u64 (W64 s.2.2.2)) := h
theorem row_box {w : World} {b : Nat} {s : ST} (h : Row4 w b 31 (.int .u64 (W64 s.1)) (.int .u64 (W64 s.2.1)) (.int .u64 (W64 s.2.2.1)) (.int .u64 (W64 s.2.2.2))) : BoxAt w b s := h
theorem box_put0 {w : World} {b : Nat} {s : ST} (h : BoxAt w b s) (y : BitVec 64) : BoxAt (w.setCell ⟨b, 0, none⟩ (.int .u64 (W64 y))) b (y, s.2.1, s.2.2.1, s.2.2.2) := row_box ((box_row h).put0 _)
theorem box_put1 {w : World} {b : Nat} {s : ST} (h : BoxAt w b s) (y : BitVec 64) : BoxAt (w.setCell ⟨b, 1, none⟩ (.int .u64 (W64 y))) b (s.1, y, s.2.2.1, s.2.2.2) := row_box ((box_row h).put1 _)
theorem box_put2 {w : World} {b : Nat} {s : ST} (h : BoxAt w b s) (y : BitVec 64) : BoxAt (w.setCell ⟨b, 2, none⟩ (.int .u64 (W64 y))) b (s.1, s.2.1, y, s.2.2.2) := row_box ((box_row h).put2 _)
theorem box_put3 {w : World} {b : Nat} {s : ST} (h : BoxAt w b s) (y : BitVec 64) : BoxAt (w.setCell ⟨b, 3, none⟩ (.int .u64 (W64 y))) b (s.1, s.2.1, s.2.2.1, y) := row_box ((box_row h).put3 _)
def lanesV (s : ST) : Value := .agg #[.int .u64 (W64 s.1), .int .u64 (W64 s.2.1), .int .u64 (W64 s.2.2.1), .int .u64 (W64 s.2.2.2)]
theorem first_any (sd : BitVec 64) (w : World) : Calls Tryz.prog 210 #[.int .u64 (W64 sd)] w (GivesNew (.agg #[cS (firstF sd) 0, cS (firstF sd) 1, cS (firstF sd) 2, cS (firstF sd) 3]) w) := by
 have hR2 := row4_new w 31 (.int .u64 (W64 (sd + 11400714785074694791#64 + 14029467366897019727#64))) (.int .u64 (W64 (sd + 14029467366897019727#64))) (.int .u64 (W64 sd)) (.int .u64 (W64 (sd - 11400714785074694791#64)))
 have hF2 := (Fr.refl No w).alloc (.cells #[.int .u64 (W64 (sd + 11400714785074694791#64 + 14029467366897019727#64)), .int .u64 (W64 (sd + 14029467366897019727#64)), .int .u64 (W64 sd), .int .u64 (W64 (sd - 11400714785074694791#64))] 31)
 go_enter Tryz.func210, Tryz.ntmps210
 go_wp2
 generalize w.alloc (.cells #[.int .u64 (W64 (sd + 11400714785074694791#64 + 14029467366897019727#64)), .int .u64 (W64 (sd + 14029467366897019727#64)), .int .u64 (W64 sd), .int .u64 (W64 (sd - 11400714785074694791#64))] 31) = w3 at hR2 hF2 ⊢
 have cd0 := hR2.c0
 have cd1 := hR2.c1
 have cd2 := hR2.c2
 have cd3 := hR2.c3
 exact bodyPost_ret (v := .agg #[.int .u64 (W64 (sd + 11400714785074694791#64 + 14029467366897019727#64)), .int .u64 (W64 (sd + 14029467366897019727#64)), .int .u64 (W64 sd), .int .u64 (W64 (sd - 11400714785074694791#64))]) (by simp [results, Tryz.results210, go_sem, cd0, cd1, cd2, cd3]) rfl ⟨rfl, hF2⟩
theorem round_any (v k : BitVec 64) (w : World) : Calls Tryz.prog 237 #[.int .u64 (W64 v), .int .u64 (W64 k)] w (Gives (.int .u64 (W64 (roundF v k))) w) := by
 go_enter Tryz.func237, Tryz.ntmps237
 go_wp2_with fail
 refine (Rot64_any _ _ _).mono ?_
 rintro e w' ⟨rfl, rfl⟩
 go_wp2_with fail
 go_ret
 exact ⟨by rw [roundF_def]; rfl, rfl⟩
set_option maxHeartbeats 2000000 in
theorem step_any (s : ST) (a : Option Addr) (n c : Nat) (l : Bytes) (w : World) (h : IsBytes w a n c l) (hl : l.length = 32) :
 Calls Tryz.prog 211 #[.agg #[cS s 0, cS s 1, cS s 2, cS s 3], .slice a n c] w (GivesS (stepG s l) w) := by
 have hn : n = 32 := by rw [← h.1]; exact hl
 have hn1 : 32 ≤ n := by omega
 have hA : BoxAt (w.alloc (.cells (boxCells s).toArray 31)) w.heap.size s := heap_alloc_new w _
 have hbox : BoxAt ((w.alloc (.cells (boxCells s).toArray 31)).alloc (.cells #[.int .u64 0, .int .u64 0, .int .u64 0, .int .u64 0] 31)) w.heap.size s := hA.fr ((Fr.refl No _).alloc _) (fun h => h)
 have hres : Row4 ((w.alloc (.cells (boxCells s).toArray 31)).alloc (.cells #[.int .u64 0, .int .u64 0, .int .u64 0, .int .u64 0] 31)) (w.heap.size + 1) 31 (.int .u64 0) (.int .u64 0) (.int .u64 0) (.int .u64 0) := heap_alloc2_new w _ _
 have hfr := ((Fr.refl No w).alloc (.cells (boxCells s).toArray 31)).alloc (.cells #[.int .u64 0, .int .u64 0, .int .u64 0, .int .u64 0] 31)
 clear hA hn hl
 simp only [boxCells] at hbox hres hfr
 go_enter Tryz.func211, Tryz.ntmps211
 go_wp2
 go_loopw [8] (fun i wr => ∃ (k : Nat) (s' : ST), k ≤ 4 ∧ i = .int .i64 k ∧ BoxAt wr w.heap.size s' ∧ Hid (s' = stepTo s l k) ∧ Row4 wr (w.heap.size + 1) 31 (.int .u64 0) (.int .u64 0) (.int .u64 0) (.int .u64 0) ∧ Fr No w wr) (fun i _ => 4 - (intOf i).toNat)
 case atStart => exact ⟨0, s, by omega, rfl, hbox, rfl, hres, hfr⟩
 case round =>
  obtain ⟨k, s', hk, rfl, hB, hs, hres, hf⟩ := hrel
  clear hbox hfr
  rcases (show k = 0 ∨ k = 1 ∨ k = 2 ∨ k = 3 ∨ k = 4 by omega) with rfl | rfl | rfl | rfl | rfl
  · have hRow := box_row hB
    have cb0 := hRow.c0
    have cb1 := hRow.c1
    have cb2 := hRow.c2
    have cb3 := hRow.c3
    have fz0 := hRow.fz 0
    have fz1 := hRow.fz 1
    have fz2 := hRow.fz 2
    have fz3 := hRow.fz 3
    have hy := h.no hf
    go_wp2_with fail
    refine (Le64_yes _ _ _ l 0 _ hy (by omega) (by omega)).mono ?_
    rintro e w' ⟨rfl, rfl⟩
    go_wp2_with fail
    refine (round_any _ _ _).mono ?_
    rintro e w' ⟨rfl, rfl⟩
    clear hy
    go_wp2_with fail
    go_roundw
    case rel =>
     generalize hyy : roundF _ _ = y
     refine ⟨1, (y, s'.2.1, s'.2.2.1, s'.2.2.2), by omega, rfl, box_put0 hB _, ?_, hres.fr ((Fr.refl (fun x => x = w.heap.size) wr).setCell (p := ⟨w.heap.size, 0, none⟩) (.inl rfl) _) (by omega), hf.trans ((Fr.refl (fun x => x = w.heap.size) wr).setCell (p := ⟨w.heap.size, 0, none⟩) (.inl rfl) _) (fun x hx => .inr (by omega))⟩
     show _ = _
     rw [← hyy, hs.out]
     simp only [stepTo, num8, List.drop_zero]
    case measure => simp [intOf]
  · have hRow := box_row hB
    have cb0 := hRow.c0
    have cb1 := hRow.c1
    have cb2 := hRow.c2
    have cb3 := hRow.c3
    have fz0 := hRow.fz 0
    have fz1 := hRow.fz 1
    have fz2 := hRow.fz 2
    have fz3 := hRow.fz 3
    have hy := h.no hf
    go_wp2_with fail
    refine (Le64_yes _ _ _ l 8 _ hy (by omega) (by omega)).mono ?_
    rintro e w' ⟨rfl, rfl⟩
    go_wp2_with fail
    refine (round_any _ _ _).mono ?_
    rintro e w' ⟨rfl, rfl⟩
    clear hy
    go_wp2_with fail
    go_roundw
    case rel =>
     generalize hyy : roundF _ _ = y
     refine ⟨2, (s'.1, y, s'.2.2.1, s'.2.2.2), by omega, rfl, box_put1 hB _, ?_, hres.fr ((Fr.refl (fun x => x = w.heap.size) wr).setCell (p := ⟨w.heap.size, 1, none⟩) (.inl rfl) _) (by omega), hf.trans ((Fr.refl (fun x => x = w.heap.size) wr).setCell (p := ⟨w.heap.size, 1, none⟩) (.inl rfl) _) (fun x hx => .inr (by omega))⟩
     show _ = _
     rw [← hyy, hs.out]
     simp only [stepTo, num8, List.drop_zero]
    case measure => simp [intOf]
  · have hRow := box_row hB
    have cb0 := hRow.c0
    have cb1 := hRow.c1
    have cb2 := hRow.c2
    have cb3 := hRow.c3
    have fz0 := hRow.fz 0
    have fz1 := hRow.fz 1
    have fz2 := hRow.fz 2
    have fz3 := hRow.fz 3
    have hy := h.no hf
    go_wp2_with fail
    refine (Le64_yes _ _ _ l 16 _ hy (by omega) (by omega)).mono ?_
    rintro e w' ⟨rfl, rfl⟩
    go_wp2_with fail
    refine (round_any _ _ _).mono ?_
    rintro e w' ⟨rfl, rfl⟩
    clear hy
    go_wp2_with fail
    go_roundw
    case rel =>
     generalize hyy : roundF _ _ = y
     refine ⟨3, (s'.1, s'.2.1, y, s'.2.2.2), by omega, rfl, box_put2 hB _, ?_, hres.fr ((Fr.refl (fun x => x = w.heap.size) wr).setCell (p := ⟨w.heap.size, 2, none⟩) (.inl rfl) _) (by omega), hf.trans ((Fr.refl (fun x => x = w.heap.size) wr).setCell (p := ⟨w.heap.size, 2, none⟩) (.inl rfl) _) (fun x hx => .inr (by omega))⟩
     show _ = _
     rw [← hyy, hs.out]
     simp only [stepTo, num8, List.drop_zero]
    case measure => simp [intOf]
  · have hRow := box_row hB
    have cb0 := hRow.c0
    have cb1 := hRow.c1
    have cb2 := hRow.c2
    have cb3 := hRow.c3
    have fz0 := hRow.fz 0
    have fz1 := hRow.fz 1
    have fz2 := hRow.fz 2
    have fz3 := hRow.fz 3
    have hy := h.no hf
    go_wp2_with fail
    refine (Le64_yes _ _ _ l 24 _ hy (by omega) (by omega)).mono ?_
    rintro e w' ⟨rfl, rfl⟩
    go_wp2_with fail
    refine (round_any _ _ _).mono ?_
    rintro e w' ⟨rfl, rfl⟩
    clear hy
    go_wp2_with fail
    go_roundw
    case rel =>
     generalize hyy : roundF _ _ = y
     refine ⟨4, (s'.1, s'.2.1, s'.2.2.1, y), by omega, rfl, box_put3 hB _, ?_, hres.fr ((Fr.refl (fun x => x = w.heap.size) wr).setCell (p := ⟨w.heap.size, 3, none⟩) (.inl rfl) _) (by omega), hf.trans ((Fr.refl (fun x => x = w.heap.size) wr).setCell (p := ⟨w.heap.size, 3, none⟩) (.inl rfl) _) (fun x hx => .inr (by omega))⟩
     show _ = _
     rw [← hyy, hs.out]
     simp only [stepTo, num8, List.drop_zero]
    case measure => simp [intOf]
  · have hRow := box_row hB
    have cb0 := hRow.c0
    have cb1 := hRow.c1
    have cb2 := hRow.c2
    have cb3 := hRow.c3
    have cr0 := hres.c0
    have cr1 := hres.c1
    have cr2 := hres.c2
    have cr3 := hres.c3
    have fr0 := hres.fz 0
    have fr1 := hres.fz 1
    have fr2 := hres.fz 2
    have fr3 := hres.fz 3
    go_wp2_with fail
    have hF3 := fr_put4 wr (w.heap.size + 1) (.int .u64 (W64 s'.1)) (.int .u64 (W64 s'.2.1)) (.int .u64 (W64 s'.2.2.1)) (.int .u64 (W64 s'.2.2.2))
    have hR3 := row_put4 hres (.int .u64 (W64 s'.1)) (.int .u64 (W64 s'.2.1)) (.int .u64 (W64 s'.2.2.1)) (.int .u64 (W64 s'.2.2.2))
    clear cr0 fr0 cr1 fr1 cr2 fr2 cr3 fr3
    generalize (((wr.setCell ⟨w.heap.size + 1, 0, none⟩ (.int .u64 (W64 s'.1))).setCell ⟨w.heap.size + 1, 1, none⟩ (.int .u64 (W64 s'.2.1))).setCell ⟨w.heap.size + 1, 2, none⟩ (.int .u64 (W64 s'.2.2.1))).setCell ⟨w.heap.size + 1, 3, none⟩ (.int .u64 (W64 s'.2.2.2)) = w3 at hF3 hR3 ⊢
    have cd0 := hR3.c0
    have cd1 := hR3.c1
    have cd2 := hR3.c2
    have cd3 := hR3.c3
    refine bodyPost_ret (v := .agg #[cS s' 0, cS s' 1, cS s' 2, cS s' 3]) (by simp [results, Tryz.results211, go_sem, cd0, cd1, cd2, cd3, lanesV, cS0, cS1, cS2, cS3]) rfl ?_
    exact ⟨by rw [hs.out]; rfl, hf.trans hF3 (fun x hx => .inr (by omega))⟩
abbrev q0 : QT := (211, #[])
theorem run_callFunc_enter {P : Program} {f : FuncId} {fn : Func} (hf : P.funcs[f]? = some fn) (hname : (fn.name == "runtime.NumGoroutine") = false) (hb : fn.body.isSome = true) (args : Array Value) (w : World) : Sem.run P (callFunc f args) w = .ok (.enter f args) w := by
 obtain ⟨c, hc⟩ := Option.isSome_iff_exists.1 hb
 have h1 : fn.name ≠ "runtime.NumGoroutine" := by simpa using hname
 simp [callFunc, hf, h1, hc, mark]
theorem steps_any : Hid (StG64.Steps (fun _ => True) stepG 32 q0) := Lib.hid ⟨fun args w => run_callFunc_enter Tryz.func211 (by kernel_rfl) (by kernel_rfl) args w, fun w s a n c l _ hb hl => step_any s a n c l w hb hl⟩
end Go.Proofs.YtidlpihoafnobaaGreatDoor.StX64
