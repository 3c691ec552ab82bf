/- Pieces RowKit4 RestM32 HashM32 RestG64 StrHasher StrHM32 HashX64 StrHX64 RestG32 HashX32 StrHX32 -/
import Derived.Deep.Cut
import Derived.Laws.IdiomArrays
import Derived.Lib.SmallJoins
import Derived.Stop.IfaceNil
import Derived.Test.YtidlpihoafnobaaGreatPStrAnyCx
import Derived.Test.YtidlpihoafnobaaGreatPStrAnyBx
set_option linter.unusedVariables false
set_option linter.unusedSimpArgs false
namespace Go.Proofs.YtidlpihoafnobaaGreat
set_option maxRecDepth 100000
open Go.RowKit
def AllPieces (a : Option Addr) (n c : Nat) (l : Bytes) (vs : List Value) (xs : List Bytes) : Prop := vs.length = xs.length ∧ ∀ i, i < vs.length → PieceOf a n c l (vs.getD i undef) (xs.getD i [])
theorem AllPieces.snoc {a : Option Addr} {n c : Nat} {l : Bytes} {vs : List Value} {xs : List Bytes} (h : AllPieces a n c l vs xs) {v : Value} {x : Bytes} (hv : PieceOf a n c l v x) : AllPieces a n c l (vs ++ [v]) (xs ++ [x]) := by
 refine ⟨by simp [h.1], fun i hi => ?_⟩
 simp only [List.getD_eq_getElem?_getD]
 by_cases hlt : i < vs.length
 · rw [List.getElem?_append_left hlt, List.getElem?_append_left (by rw [← h.1]; exact hlt)]
   have := h.2 i hlt
   simpa only [List.getD_eq_getElem?_getD] using this
 · have hi' : i = vs.length := by simp at hi; omega
   subst hi'
   rw [List.getElem?_append_right (Nat.le_refl _), List.getElem?_append_right (by rw [h.1]; exact Nat.le_refl _)]
   simpa [h.1] using hv
theorem info_sl : (Tryz.prog.info? 25).map (fun i => (i.zero, i.size, i.bytes)) = some (some (.slice none 0 0), 1, 24) := by kernel_rfl
section
variable {w : World} {ops : Array Oper} {rest : List Oper} {a : Act} {Q : Exit → Act → World → Prop}
theorem wpList_append_piece (dst : Option Tmp) (ty : TypeId) (pos : String) (aft : Array Edge) (s x : Operand)
 (base : Nat) (v : Value) (vs : List Value) (hs : a.eval s = v) (hown : OwnsSl w base v vs) (b : Nat) (u : Value) (hx : a.eval x = .slice (some ⟨b, 0, none⟩) 1 1) (hc : w.cell? ⟨b, 0, none⟩ = some u) (hu : u.oneCell' = true)
 (hsum : vs.length ≤ 1000) (hbase : base ≤ w.heap.size)
 (h : ∀ v' w', OwnsSl w' base v' (vs ++ [u]) → Fr (fun k => v.ownBlock = some k) w w' → wpList Tryz.prog ops Q rest (a.put dst v') w') :
 wpList Tryz.prog ops Q (⟨dst, .call ⟨.builtin .append, #[s, x], #[43, 43]⟩, ty, pos, aft, none⟩ :: rest) a w := by
 obtain ⟨i, hi, hz0, hz1, hz2⟩ := info_parts info_sl
 refine wpList_append_own_at w (by rfl) s x 43 (by rfl) base 25 i (.slice none 0 0) 1 24 Tryz.underlying43 hi hz0 hz1 hz2 (by rfl) (by decide) v vs.length vs hs hown ⟨b, 0, none⟩ 1 1 [u] hx (by rfl) ?_ ?_ (by unfold maxLen; omega) (by omega) hbase ?_
 · intro j y hj
   match j, hj with
   | 0, hj =>
    obtain rfl : u = y := by simpa using hj
    rw [Addr.add_zero']; exact hc
 · intro y hy
   obtain rfl : y = u := by simpa using hy
   exact hu
 · intro v' w' hown' hg _ _
   refine h v' w' ?_ ⟨hg.os, hg.tape, hg.output, hg.size, fun k hk hne => hg.block k hk fun e => hne e.symm⟩
   unfold OwnsSl
   rw [List.length_append]
   exact hown'
end
def GivesPieces (a : Option Addr) (n c : Nat) (l : Bytes) (m : Nat) (w : World) (e : Ending) (w' : World) : Prop :=
 ∃ v vs xs, e = .returned v ∧ OwnsSl w' w.heap.size v vs ∧ Fr No w w' ∧ AllPieces a n c l vs xs ∧ xs.flatten = l ∧ vs.length = m + 1
def PiecesAt (a : Option Addr) (n c : Nat) (l : Bytes) (m : Nat) (w : World) (b out i : Value) (wr : World) (k : Nat) : Prop :=
 ∃ m' a' c' l' vs xs, k ≤ m ∧ i = .int .i64 k ∧ b = .slice a' m' c' ∧ PieceOf a n c l (.slice a' m' c') l' ∧ IsBytes w a' m' c' l' ∧ OwnsSl wr w.heap.size out vs ∧ vs.length = k ∧ AllPieces a n c l vs xs ∧ xs.flatten ++ l' = l ∧ Fr No w wr
theorem PiecesAt.next {a : Option Addr} {n c : Nat} {l : Bytes} {m : Nat} {w w1 : World} {v1 : Value} {k m' c' : Nat} {a' : Option Addr} {l' : Bytes} {vs : List Value} {xs : List Bytes} (z : Nat) (hz : z ≤ m') (hk : k < m)
 (hp : PieceOf a n c l (.slice a' m' c') l') (hb : IsBytes w a' m' c' l') (ho : OwnsSl w1 w.heap.size v1 (vs ++ [.slice (subAddr a' 0 c' 1) z c'])) (hl : vs.length = k) (ha : AllPieces a n c l vs xs) (hx : xs.flatten ++ l' = l) (hf : Fr No w w1) :
 PiecesAt a n c l m w (.slice (subAddr a' z c' 1) (m' - z) (c' - z)) v1 (.int .i64 ((k : Int) + 1)) w1 (k + 1) :=
 ⟨_, _, _, _, _, xs ++ [l'.take z], by omega, by simp, rfl, hp.rest z hz, hb.cut_to_end z hz rfl rfl, ho, by simp [hl], ha.snoc (hp.head z hz hb.2.1), by simp [← hx, List.append_assoc], hf⟩
set_option maxHeartbeats 1000000 in
theorem refPieces_any (a : Option Addr) (n c : Nat) (l : Bytes) (a2 : Option Addr) (m c2 : Nat) (l2 : List Int) (w : World) (h : IsBytes w a n c l) (h2 : IsInts w a2 m c2 l2) (hm : m ≤ 100) :
 Calls Tryz.prog 23 #[.slice a n c, .slice a2 m c2] w (GivesPieces a n c l m w) := by
 have hP : PiecesAt a n c l m w (.slice a n c) (.slice none 0 0) (.int .i64 0) w 0 :=
  ⟨_, _, _, _, [], [], by omega, rfl, rfl, ⟨_, _, _, rfl, Nat.le_refl _, fun _ h => h⟩, h, World.ownsRow_nil w _ _ 1, rfl, ⟨rfl, fun i hi => by simp at hi⟩, by simp, Fr.refl No w⟩
 have g1 := h2.2.1
 have g2 := h2.2.2.1
 clear h
 go_enter Tryz.func23, Tryz.ntmps23
 go_wp2
 go_loopw [0, 5, 11] (fun b out i wr => ∃ k, PiecesAt a n c l m w b out i wr k) (fun _ _ i _ => m - (intOf i).toNat)
 case atStart => exact ⟨0, hP⟩
 case round =>
  obtain ⟨k, m', a', c', l', vs, xs, hk, rfl, rfl, hp, hb, ho, hl, ha, hx, hf⟩ := hrel
  have HL := Lib.hid hl
  have HX := Lib.hid hx
  clear hP hl hx
  have g3 := hb.2.1
  have g4 := hb.2.2.1
  have g5 : vs.length ≤ 1000 := by have := HL.out; omega
  have HB := Lib.hid hb.1
  by_cases hlt : k < m
  · obtain ⟨⟨b, off, rfl, hc⟩, r1, r2⟩ := (h2.no hf).2.2.2.2 k hlt
    have i0 : (k : Int) < (m : Int) := by omega
    generalize l2.getD k 0 = cut at hc r1 r2
    have hbase : w.heap.size ≤ wr.heap.size := hf.size
    rcases (show cut < 0 ∨ (0 ≤ cut ∧ (m' : Int) < cut) ∨ (0 ≤ cut ∧ cut ≤ m') by omega) with j1 | ⟨j1, j2⟩ | ⟨j1, j2⟩
    · have i1 : (0 : Int) ≤ (m' : Int) := by omega
      have hoA : OwnsSl (wr.alloc (.cells #[.slice (subAddr a' 0 c' 1) 0 c'] 25)) w.heap.size _ vs := World.ownsRow.alloc ho _
      go_wp2_with (at_builtin; refine wpList_append_piece _ _ _ _ _ _ w.heap.size _ vs rfl hoA wr.heap.size (.slice (subAddr a' 0 c' 1) 0 c') rfl (by rw [cell_of_row _ wr.heap.size 0 _ _ _ (heap_alloc_new wr _)]; rfl) rfl g5 (by simp; omega) ?_; intro v1 w1 ho1 hf1)
      go_roundw
      case rel => exact ⟨k + 1, PiecesAt.next 0 (by omega) hlt hp hb ho1 HL.out ha HX.out ((hf.alloc _).trans hf1 (fun x hx => .inr (by have := ho.lt x hx; omega)))⟩
      case measure => simp [intOf]; omega
    · have i1 : ¬ cut < 0 := by omega
      have hoA : OwnsSl (wr.alloc (.cells #[.slice (subAddr a' 0 c' 1) m' c'] 25)) w.heap.size _ vs := World.ownsRow.alloc ho _
      go_wp2_with (at_builtin; refine wpList_append_piece _ _ _ _ _ _ w.heap.size _ vs rfl hoA wr.heap.size (.slice (subAddr a' 0 c' 1) m' c') rfl (by rw [cell_of_row _ wr.heap.size 0 _ _ _ (heap_alloc_new wr _)]; rfl) rfl g5 (by simp; omega) ?_; intro v1 w1 ho1 hf1)
      go_roundw
      case rel =>
       have hN := PiecesAt.next m' (by omega) hlt hp hb ho1 HL.out ha HX.out ((hf.alloc _).trans hf1 (fun x hx => .inr (by have := ho.lt x hx; omega)))
       rw [Nat.sub_self] at hN
       exact ⟨k + 1, hN⟩
      case measure => simp [intOf]; omega
    · obtain ⟨z, rfl⟩ := Int.eq_ofNat_of_zero_le j1
      have i1 : ¬ (z : Int) < 0 := by omega
      have i2 : ¬ (m' : Int) < (z : Int) := by omega
      have i3 : (z : Int) ≤ (c' : Int) := by omega
      have hoA : OwnsSl (wr.alloc (.cells #[.slice (subAddr a' 0 c' 1) z c'] 25)) w.heap.size _ vs := World.ownsRow.alloc ho _
      go_wp2_with (at_builtin; refine wpList_append_piece _ _ _ _ _ _ w.heap.size _ vs rfl hoA wr.heap.size (.slice (subAddr a' 0 c' 1) z c') rfl (by rw [cell_of_row _ wr.heap.size 0 _ _ _ (heap_alloc_new wr _)]; rfl) rfl g5 (by simp; omega) ?_; intro v1 w1 ho1 hf1)
      go_roundw
      case rel => exact ⟨k + 1, PiecesAt.next z (by omega) hlt hp hb ho1 HL.out ha HX.out ((hf.alloc _).trans hf1 (fun x hx => .inr (by have := ho.lt x hx; omega)))⟩
      case measure => simp [intOf]; omega
  · have i0 : ¬ (k : Int) < (m : Int) := by omega
    have hkm : k = m := by omega
    have HK := Lib.hid hkm
    clear hkm
    have hoA : OwnsSl (wr.alloc (.cells #[.slice a' m' c'] 25)) w.heap.size _ vs := World.ownsRow.alloc ho _
    have hbase : w.heap.size ≤ wr.heap.size := hf.size
    go_wp2_with (at_builtin; refine wpList_append_piece _ _ _ _ _ _ w.heap.size _ vs rfl hoA wr.heap.size (.slice a' m' c') rfl (by rw [cell_of_row _ wr.heap.size 0 _ _ _ (heap_alloc_new wr _)]; rfl) rfl g5 (by simp; omega) ?_; intro v1 w1 ho1 hf1)
    go_ret
    refine ⟨v1, vs ++ [.slice a' m' c'], xs ++ [l'], rfl, ho1, (hf.alloc _).trans hf1 (fun x hx => .inr (by have := ho.lt x hx; omega)), ha.snoc hp, by simpa using HX.out, ?_⟩
    rw [List.length_append, HL.out, HK.out]; rfl
end Go.Proofs.YtidlpihoafnobaaGreat
namespace Go.Proofs.YtidlpihoafnobaaGreat
set_option maxRecDepth 100000
open Go.RowKit Go.ChangeShapes
theorem cells_int : Tryz.prog.cellsOf 3 = 1 := by kernel_rfl
theorem isInts_of_ints {w : World} {x : Addr} {n c : Nat} {zs : List Int} (hl : n ≤ c) (hm : c ≤ maxLen) (hz : zs.length = c)
 (hcell : ∀ i, i < zs.length → w.cell? (x.add i) = some (.int .i64 (zs.getD i 0))) (hwz : ∀ n ∈ zs, (Lit.int .i64 n).wf = true) :
 IsInts w (some x) n c (zs.take n) := by
 refine ⟨by rw [List.length_take]; omega, hl, by unfold maxLen at hm; omega, (fun e => by cases e), fun i hi => ?_⟩
 obtain ⟨b, off, spot⟩ := x
 have hc := hcell i (by omega)
 have h0 := hcell 0 (by omega)
 have hspot : spot = none := by simpa [Addr.add] using World.cell?_spot h0
 subst hspot
 rw [Addr.add_lit] at hc
 have hi' : i < zs.length := by omega
 have e1 : zs.getD i 0 = zs[i] := by rw [List.getD_eq_getElem?_getD, List.getElem?_eq_getElem hi']; rfl
 have e2 : (zs.take n).getD i 0 = zs[i] := by
  rw [List.getD_eq_getElem?_getD, List.getElem?_take, if_pos hi, List.getElem?_eq_getElem hi']; rfl
 have hw := int64 (hwz zs[i] (List.getElem_mem hi'))
 rw [e2]
 exact ⟨⟨b, off, rfl, by rw [hc, e1]⟩, hw.1, hw.2⟩
end Go.Proofs.YtidlpihoafnobaaGreat
namespace Go.Proofs.YtidlpihoafnobaaGreat.StM32
set_option maxRecDepth 100000
open Go.RowKit
def Resets (base sb : Nat) (size : Int) (f : ST) (q : Nat) (tv : Value) (w : World) (e : Ending) (w' : World) : Prop :=
 e = .returned (.tuple #[]) ∧ StreamAt w' sb size f f q (.slice none 0 0) 0#64 ∧ Fr (fun x => x = sb) w w'
theorem Reset_any {w : World} {sb : Nat} {size : Int} {f s : ST} {q : Nat} {tv : Value} {lo : BitVec 64} (base : Nat) (hst : StreamAt w sb size f s q tv lo) : Calls Tryz.prog 265 #[.pointer (some ⟨sb, 0, none⟩)] w (Resets base sb size f q tv w) := by
 have cf0 : w.cell? ⟨sb, 1, none⟩ = some (.int .u32 (W32 f)) := hst.cell 1 rfl
 have cn0 : w.cell? ⟨sb, 2, none⟩ = some (.int .u32 (W32 s)) := hst.cell 2 rfl
 have ctl : w.cell? ⟨sb, 4, none⟩ = some (tv) := hst.cell 4 rfl
 have clo : w.cell? ⟨sb, 5, none⟩ = some (.int .u64 (W64 lo)) := hst.cell 5 rfl
 have fz2 := hst.frozen 2
 have fz3 := hst.frozen 3
 have fz4 := hst.frozen 4
 have fz5 := hst.frozen 5
 go_enter Tryz.func265, Tryz.ntmps265
 go_wp2_with (go_at_call 177; refine (made_any hst).mono ?_; rintro e w' ⟨rfl, rfl⟩)
 go_end0
 exact ⟨rfl, (row_put (row_put (row_put hst 2 (.int .u32 (W32 f))) 4 (.slice none 0 0)) 5 (.int .u64 0)), (((Fr.refl (fun x => x = sb) w).setCell (p := ⟨sb, 2, none⟩) (.inl rfl) _).setCell (p := ⟨sb, 4, none⟩) (.inl rfl) _).setCell (p := ⟨sb, 5, none⟩) (.inl rfl) _⟩
end Go.Proofs.YtidlpihoafnobaaGreat.StM32
namespace Go.Proofs.YtidlpihoafnobaaGreat.StM32
set_option maxRecDepth 100000
open Go.RowKit
theorem Reset_h {w0 w : World} {hb sb : Nat} {sd : BitVec 32} {s : ST} {tl : Bytes} {lo : BitVec 64} {tv : Value} (h : HLive w0 w hb sb sd s tl lo tv) : Calls Tryz.prog 262 #[.pointer (some ⟨hb, 0, none⟩)] w
 (fun e w' => e = .returned (.tuple #[]) ∧ HLive w0 w' hb sb sd (firstF sd) [] 0#64 (.slice none 0 0) ∧ Fr (fun x => x = sb) w w') := by
 have cc := h.cell
 go_enter Tryz.func262, Tryz.ntmps262
 go_wp2_with (go_at_call 111; refine (made_h h).mono ?_; rintro e w' ⟨rfl, rfl⟩)
 refine (Reset_any w0.heap.size h.on.st).mono ?_
 rintro e w2 ⟨rfl, hst, hfr⟩
 have hne : hb ≠ sb := fun e => h.ne (.inl e)
 have hH : HLive w0 w2 hb sb sd (firstF sd) [] 0#64 (.slice none 0 0) :=
  ⟨⟨hst, Owns.nil _ _, h.on.ge, h.on.fr.trans hfr (fun x hx => .inr (by have := h.on.ge; omega))⟩, hfr.heap hne h.hc, h.ge, (fun g => by rcases g with g | g; exact hne g; simp [Value.ownBlock] at g), by simp⟩
 clear cc
 go_wp2_with fail
 go_end0
 exact ⟨rfl, hH, hfr⟩
end Go.Proofs.YtidlpihoafnobaaGreat.StM32
namespace Go.Proofs.YtidlpihoafnobaaGreat.StG64
set_option maxRecDepth 100000
open Go.RowKit
def Resets (base sb : Nat) (size : Int) (f : ST) (q : QT) (tv : Value) (w : World) (e : Ending) (w' : World) : Prop :=
 e = .returned (.tuple #[]) ∧ StreamAt w' sb size f f q (.slice none 0 0) 0#64 ∧ Fr (fun x => x = sb) w w'
theorem Reset_any {w : World} {sb : Nat} {size : Int} {f s : ST} {q : QT} {tv : Value} {lo : BitVec 64} (base : Nat) (hst : StreamAt w sb size f s q tv lo) : Calls Tryz.prog 295 #[.pointer (some ⟨sb, 0, none⟩)] w (Resets base sb size f q tv w) := by
 have cf0 : w.cell? ⟨sb, 1, none⟩ = some (cS f 0) := hst.cell 1 rfl
 have cf1 : w.cell? ⟨sb, 2, none⟩ = some (cS f 1) := hst.cell 2 rfl
 have cf2 : w.cell? ⟨sb, 3, none⟩ = some (cS f 2) := hst.cell 3 rfl
 have cf3 : w.cell? ⟨sb, 4, none⟩ = some (cS f 3) := hst.cell 4 rfl
 have cn0 : w.cell? ⟨sb, 5, none⟩ = some (cS s 0) := hst.cell 5 rfl
 have cn1 : w.cell? ⟨sb, 6, none⟩ = some (cS s 1) := hst.cell 6 rfl
 have cn2 : w.cell? ⟨sb, 7, none⟩ = some (cS s 2) := hst.cell 7 rfl
 have cn3 : w.cell? ⟨sb, 8, none⟩ = some (cS s 3) := hst.cell 8 rfl
 have ctl : w.cell? ⟨sb, 10, none⟩ = some (tv) := hst.cell 10 rfl
 have clo : w.cell? ⟨sb, 11, none⟩ = some (.int .u64 (W64 lo)) := hst.cell 11 rfl
 have fz5 := hst.frozen 5
 have fz6 := hst.frozen 6
 have fz7 := hst.frozen 7
 have fz8 := hst.frozen 8
 have fz9 := hst.frozen 9
 have fz10 := hst.frozen 10
 have fz11 := hst.frozen 11
 go_enter Tryz.func295, Tryz.ntmps295
 go_wp2_with (go_at_call 234; refine (made_any hst).mono ?_; rintro e w' ⟨rfl, rfl⟩)
 go_end0
 exact ⟨rfl, (row_put (row_put (row_put (row_put (row_put (row_put hst 5 (cS f 0)) 6 (cS f 1)) 7 (cS f 2)) 8 (cS f 3)) 10 (.slice none 0 0)) 11 (.int .u64 0)), ((((((Fr.refl (fun x => x = sb) w).setCell (p := ⟨sb, 5, none⟩) (.inl rfl) _).setCell (p := ⟨sb, 6, none⟩) (.inl rfl) _).setCell (p := ⟨sb, 7, none⟩) (.inl rfl) _).setCell (p := ⟨sb, 8, none⟩) (.inl rfl) _).setCell (p := ⟨sb, 10, none⟩) (.inl rfl) _).setCell (p := ⟨sb, 11, none⟩) (.inl rfl) _⟩
end Go.Proofs.YtidlpihoafnobaaGreat.StG64
namespace Go.Proofs.YtidlpihoafnobaaGreat
set_option maxRecDepth 100000
open Go.RowKit
theorem hReset_of {w : World} {hb : Nat} {T : TypeId} {v : Value} (h3 : w.cell? ⟨hb, 3, none⟩ = some (.iface T v)) (f : FuncId) (hm : ∀ W, (Go.method 369 T v "Reset").run Tryz.prog W = .ok (f, v) W) (he : ∀ (args : Array Value) (W : World), Sem.run Tryz.prog (callFunc f args) W = .ok (.enter f args) W) {Q : World → Prop} (hc : Calls Tryz.prog f #[v] w (fun e w' => e = .returned (.tuple #[]) ∧ Q w')) :
 Calls Tryz.prog 26 #[.pointer (some ⟨hb, 0, none⟩)] w (fun e w' => e = .returned (.int .i64 0) ∧ Q w') := by
 go_enter Tryz.func26, Tryz.ntmps26
 go_wp2_with (go_at_call 38; refine (hmade_yes h3).mono ?_; rintro e w' ⟨rfl, rfl⟩)
 refine hc.mono ?_
 rintro e w1 ⟨rfl, hQ⟩
 go_wp2_with fail
 go_ret
 exact ⟨rfl, hQ⟩
end Go.Proofs.YtidlpihoafnobaaGreat
namespace Go.Proofs.YtidlpihoafnobaaGreat.StM32
set_option maxRecDepth 100000
open Go.RowKit
theorem HS.reset {w0 w : World} {hb : Nat} {F : Nat → Prop} {k : Int} {kh kl : BitVec 64} {s : ST} {tl : Bytes} {lo : BitVec 64} (h : HS w0 w hb (F) k kh kl s tl lo) :
 Calls Tryz.prog 26 #[.pointer (some ⟨hb, 0, none⟩)] w (fun e w' => e = .returned (.int .i64 0) ∧ ∃ F', HS w0 w' hb F' k kh kl (firstF (kl.setWidth 32)) [] 0#64 ∧ Fr F w w' ∧ ∀ x, F' x → F x) := by
 obtain ⟨ib, sb, tv, c6, c7, c8, c9, c10, c11, hr, hc, hL, rfl⟩ := h
 refine hReset_of hr.c3 262 (fun W => by kernel_rfl) (calls_enter Tryz.func262 (by kernel_rfl) (by kernel_rfl)) ((Reset_h hL).mono ?_)
 rintro e w' ⟨rfl, hL', hf⟩
 have hK := hL.on.con
 have hf2 : Fr (Foot sb tv) w w' := hf.mono (fun x _ g => .inl g)
 refine ⟨rfl, _, ⟨ib, sb, _, c6, c7, c8, c9, c10, c11, hr.fr hf2 hK, (hc.fr hf2 (hK) (by decide)), hL', rfl⟩, hf2, fun x hx => ?_⟩
 rcases hx with rfl | hx
 · exact .inl rfl
 · simp [Value.ownBlock] at hx
end Go.Proofs.YtidlpihoafnobaaGreat.StM32
namespace Go.Proofs.YtidlpihoafnobaaGreat.StX64
set_option maxRecDepth 100000
open Go.Proofs.YtidlpihoafnobaaGreat.StG64
open Go.RowKit
theorem Reset_h {w0 w : World} {hb sb : Nat} {sd : BitVec 64} {s : ST} {tl : Bytes} {lo : BitVec 64} {tv : Value} (h : HLive w0 w hb sb sd s tl lo tv) : Calls Tryz.prog 292 #[.pointer (some ⟨hb, 0, none⟩)] w
 (fun e w' => e = .returned (.tuple #[]) ∧ HLive w0 w' hb sb sd (firstF sd) [] 0#64 (.slice none 0 0) ∧ Fr (fun x => x = sb) w w') := by
 have cc := h.cell
 go_enter Tryz.func292, Tryz.ntmps292
 go_wp2_with (go_at_call 209; refine (made_h h).mono ?_; rintro e w' ⟨rfl, rfl⟩)
 refine (Reset_any w0.heap.size h.on.st).mono ?_
 rintro e w2 ⟨rfl, hst, hfr⟩
 have hne : hb ≠ sb := fun e => h.ne (.inl e)
 have hH : HLive w0 w2 hb sb sd (firstF sd) [] 0#64 (.slice none 0 0) :=
  ⟨⟨hst, Owns.nil _ _, h.on.ge, h.on.fr.trans hfr (fun x hx => .inr (by have := h.on.ge; omega))⟩, hfr.heap hne h.hc, h.ge, (fun g => by rcases g with g | g; exact hne g; simp [Value.ownBlock] at g), by simp⟩
 clear cc
 go_wp2_with fail
 go_end0
 exact ⟨rfl, hH, hfr⟩
end Go.Proofs.YtidlpihoafnobaaGreat.StX64
namespace Go.Proofs.YtidlpihoafnobaaGreat.StX64
open Go.Proofs.YtidlpihoafnobaaGreat.StG64
set_option maxRecDepth 100000
open Go.RowKit
theorem HS.reset {w0 w : World} {hb : Nat} {F : Nat → Prop} {k : Int} {kh kl : BitVec 64} {s : ST} {tl : Bytes} {lo : BitVec 64} (h : HS w0 w hb (F) k kh kl s tl lo) :
 Calls Tryz.prog 26 #[.pointer (some ⟨hb, 0, none⟩)] w (fun e w' => e = .returned (.int .i64 0) ∧ ∃ F', HS w0 w' hb F' k kh kl (firstF kl) [] 0#64 ∧ Fr F w w' ∧ ∀ x, F' x → F x) := by
 obtain ⟨ib, sb, tv, c6, c7, c8, c9, c10, c11, hr, hc, hL, rfl⟩ := h
 refine hReset_of hr.c3 292 (fun W => by kernel_rfl) (calls_enter Tryz.func292 (by kernel_rfl) (by kernel_rfl)) ((Reset_h hL).mono ?_)
 rintro e w' ⟨rfl, hL', hf⟩
 have hK := hL.on.con
 have hf2 : Fr (Foot sb tv) w w' := hf.mono (fun x _ g => .inl g)
 refine ⟨rfl, _, ⟨ib, sb, _, c6, c7, c8, c9, c10, c11, hr.fr hf2 hK, (hc.fr hf2 (hK) (by decide)), hL', rfl⟩, hf2, fun x hx => ?_⟩
 rcases hx with rfl | hx
 · exact .inl rfl
 · simp [Value.ownBlock] at hx
end Go.Proofs.YtidlpihoafnobaaGreat.StX64
namespace Go.Proofs.YtidlpihoafnobaaGreat.StG32
set_option maxRecDepth 100000
open Go.RowKit
def Resets (base sb : Nat) (size : Int) (f : ST) (q : QT) (tv : Value) (w : World) (e : Ending) (w' : World) : Prop :=
 e = .returned (.tuple #[]) ∧ StreamAt w' sb size f f q (.slice none 0 0) 0#64 ∧ Fr (fun x => x = sb) w w'
theorem Reset_any {w : World} {sb : Nat} {size : Int} {f s : ST} {q : QT} {tv : Value} {lo : BitVec 64} (base : Nat) (hst : StreamAt w sb size f s q tv lo) : Calls Tryz.prog 272 #[.pointer (some ⟨sb, 0, none⟩)] w (Resets base sb size f q tv w) := by
 have cf0 : w.cell? ⟨sb, 1, none⟩ = some (cS f 0) := hst.cell 1 rfl
 have cf1 : w.cell? ⟨sb, 2, none⟩ = some (cS f 1) := hst.cell 2 rfl
 have cf2 : w.cell? ⟨sb, 3, none⟩ = some (cS f 2) := hst.cell 3 rfl
 have cf3 : w.cell? ⟨sb, 4, none⟩ = some (cS f 3) := hst.cell 4 rfl
 have cn0 : w.cell? ⟨sb, 5, none⟩ = some (cS s 0) := hst.cell 5 rfl
 have cn1 : w.cell? ⟨sb, 6, none⟩ = some (cS s 1) := hst.cell 6 rfl
 have cn2 : w.cell? ⟨sb, 7, none⟩ = some (cS s 2) := hst.cell 7 rfl
 have cn3 : w.cell? ⟨sb, 8, none⟩ = some (cS s 3) := hst.cell 8 rfl
 have ctl : w.cell? ⟨sb, 10, none⟩ = some (tv) := hst.cell 10 rfl
 have clo : w.cell? ⟨sb, 11, none⟩ = some (.int .u64 (W64 lo)) := hst.cell 11 rfl
 have fz5 := hst.frozen 5
 have fz6 := hst.frozen 6
 have fz7 := hst.frozen 7
 have fz8 := hst.frozen 8
 have fz9 := hst.frozen 9
 have fz10 := hst.frozen 10
 have fz11 := hst.frozen 11
 go_enter Tryz.func272, Tryz.ntmps272
 go_wp2_with (go_at_call 190; refine (made_any hst).mono ?_; rintro e w' ⟨rfl, rfl⟩)
 go_end0
 exact ⟨rfl, (row_put (row_put (row_put (row_put (row_put (row_put hst 5 (cS f 0)) 6 (cS f 1)) 7 (cS f 2)) 8 (cS f 3)) 10 (.slice none 0 0)) 11 (.int .u64 0)), ((((((Fr.refl (fun x => x = sb) w).setCell (p := ⟨sb, 5, none⟩) (.inl rfl) _).setCell (p := ⟨sb, 6, none⟩) (.inl rfl) _).setCell (p := ⟨sb, 7, none⟩) (.inl rfl) _).setCell (p := ⟨sb, 8, none⟩) (.inl rfl) _).setCell (p := ⟨sb, 10, none⟩) (.inl rfl) _).setCell (p := ⟨sb, 11, none⟩) (.inl rfl) _⟩
end Go.Proofs.YtidlpihoafnobaaGreat.StG32
namespace Go.Proofs.YtidlpihoafnobaaGreat.StX32
set_option maxRecDepth 100000
open Go.Proofs.YtidlpihoafnobaaGreat.StG32
open Go.RowKit
theorem Reset_h {w0 w : World} {hb sb : Nat} {sd : BitVec 32} {s : ST} {tl : Bytes} {lo : BitVec 64} {tv : Value} (h : HLive w0 w hb sb sd s tl lo tv) : Calls Tryz.prog 286 #[.pointer (some ⟨hb, 0, none⟩)] w
 (fun e w' => e = .returned (.tuple #[]) ∧ HLive w0 w' hb sb sd (firstF sd) [] 0#64 (.slice none 0 0) ∧ Fr (fun x => x = sb) w w') := by
 have cc := h.cell
 go_enter Tryz.func286, Tryz.ntmps286
 go_wp2_with (go_at_call 147; refine (made_h h).mono ?_; rintro e w' ⟨rfl, rfl⟩)
 refine (Reset_any w0.heap.size h.on.st).mono ?_
 rintro e w2 ⟨rfl, hst, hfr⟩
 have hne : hb ≠ sb := fun e => h.ne (.inl e)
 have hH : HLive w0 w2 hb sb sd (firstF sd) [] 0#64 (.slice none 0 0) :=
  ⟨⟨hst, Owns.nil _ _, h.on.ge, h.on.fr.trans hfr (fun x hx => .inr (by have := h.on.ge; omega))⟩, hfr.heap hne h.hc, h.ge, (fun g => by rcases g with g | g; exact hne g; simp [Value.ownBlock] at g), by simp⟩
 clear cc
 go_wp2_with fail
 go_end0
 exact ⟨rfl, hH, hfr⟩
end Go.Proofs.YtidlpihoafnobaaGreat.StX32
namespace Go.Proofs.YtidlpihoafnobaaGreat.StX32
open Go.Proofs.YtidlpihoafnobaaGreat.StG32
set_option maxRecDepth 100000
open Go.RowKit
theorem HS.reset {w0 w : World} {hb : Nat} {F : Nat → Prop} {k : Int} {kh kl : BitVec 64} {s : ST} {tl : Bytes} {lo : BitVec 64} (h : HS w0 w hb (F) k kh kl s tl lo) :
 Calls Tryz.prog 26 #[.pointer (some ⟨hb, 0, none⟩)] w (fun e w' => e = .returned (.int .i64 0) ∧ ∃ F', HS w0 w' hb F' k kh kl (firstF (kl.setWidth 32)) [] 0#64 ∧ Fr F w w' ∧ ∀ x, F' x → F x) := by
 obtain ⟨ib, sb, tv, c6, c7, c8, c9, c10, c11, hr, hc, hL, rfl⟩ := h
 refine hReset_of hr.c3 286 (fun W => by kernel_rfl) (calls_enter Tryz.func286 (by kernel_rfl) (by kernel_rfl)) ((Reset_h hL).mono ?_)
 rintro e w' ⟨rfl, hL', hf⟩
 have hK := hL.on.con
 have hf2 : Fr (Foot sb tv) w w' := hf.mono (fun x _ g => .inl g)
 refine ⟨rfl, _, ⟨ib, sb, _, c6, c7, c8, c9, c10, c11, hr.fr hf2 hK, (hc.fr hf2 (hK) (by decide)), hL', rfl⟩, hf2, fun x hx => ?_⟩
 rcases hx with rfl | hx
 · exact .inl rfl
 · simp [Value.ownBlock] at hx
end Go.Proofs.YtidlpihoafnobaaGreat.StX32
