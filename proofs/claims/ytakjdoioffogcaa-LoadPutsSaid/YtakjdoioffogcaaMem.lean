/- Laws for the walk, over this program: bytes appended to a slice of the call's own; bytes made a string; strings held against each other. -/
import Derived.Test.YtakjdoioffogcaaBytes
import Derived.Test.YtakjdoioffogcaaProg
import Derived.Laws.AppendOwnNone
import Derived.ArgAppend
namespace Go.Proofs.Ytakjdoioffogcaa
set_option linter.unusedVariables false
set_option linter.unusedSimpArgs false
open Go.RowKit

def cellB (b : BitVec 8) : Value := .int .u8 (B8 b)
/-- The slice value v is the call's own (blocks from base on) and holds the bytes l. -/
def Owns (w : World) (base : Nat) (v : Value) (l : Bytes) : Prop := w.ownsRow base 5 1 v l.length (l.map cellB)
theorem Owns.nil (w : World) (base : Nat) : Owns w base (.slice none 0 0) [] := World.ownsRow_nil w base _ 1
theorem info_u8 : (Try.prog.info? 5).map (fun i => (i.zero, i.size, i.bytes)) = some (some (.int .u8 0), 1, 1) := by kernel_rfl

theorem getD_cell {l : Bytes} {j : Nat} {u : Value} (h : (l.map cellB)[j]? = some u) : j < l.length ∧ u = .int .u8 (B8 (l.getD j 0)) := by
  rw [List.getElem?_map] at h
  cases hl : l[j]? with
  | none => rw [hl] at h; cases h
  | some x =>
    rw [hl] at h
    simp only [Option.map_some, Option.some.injEq] at h
    refine ⟨(List.getElem?_eq_some_iff.1 hl).1, ?_⟩
    rw [← h, List.getD_eq_getElem?_getD, hl]; rfl
theorem Owns.bytes {w : World} {base : Nat} {v : Value} {l : Bytes} (h : Owns w base v l) :
    ∃ a c, v = .slice a l.length c ∧ IsBytes w a l.length c l ∧ (∀ x, a = some x → base ≤ x.block ∧ x.block < w.heap.size) := by
  rcases h.2 with ⟨rfl, hn⟩ | ⟨g, cap, cur, rfl, hb, hg, hnc, hcm, hcs, ht⟩
  · obtain rfl : l = [] := List.eq_nil_of_length_eq_zero hn
    exact ⟨none, 0, rfl, IsBytes.nil w, fun x hx => by cases hx⟩
  · have hlt : g < w.heap.size := (Array.getElem?_eq_some_iff.1 hg).1
    refine ⟨_, _, rfl, ⟨rfl, hnc, by unfold maxLen at hcm; omega, (fun e => by cases e), fun i hi => ⟨g, 0, rfl, ?_⟩⟩, (fun x hx => by cases hx; exact ⟨hb, hlt⟩)⟩
    rw [cell_of_row w g (0 + i) cur _ _ hg, Nat.zero_add]
    have h1 : cur.toList[i]? = (l.map cellB)[i]? := by
      rw [← ht, Nat.mul_one, List.getElem?_take, if_pos hi]
    rw [← Array.getElem?_toList, h1, List.getElem?_map, List.getD_eq_getElem?_getD, List.getElem?_eq_getElem hi]; rfl
theorem Owns.alloc {w : World} {base : Nat} {v : Value} {l : Bytes} (h : Owns w base v l) (o : Obj) : Owns (w.alloc o) base v l := World.ownsRow.alloc h o
theorem Owns.mono {w : World} {base base' : Nat} {v : Value} {l : Bytes} (h : Owns w base v l) (hb : base' ≤ base) : Owns w base' v l := by
  refine ⟨h.1, ?_⟩
  rcases h.2 with hn | ⟨g, cap, cur, e, hg, r⟩
  · exact .inl hn
  · exact .inr ⟨g, cap, cur, e, Nat.le_trans hb hg, r⟩
theorem Owns.lt {w : World} {base : Nat} {v : Value} {l : Bytes} (h : Owns w base v l) : ∀ k, v.ownBlock = some k → base ≤ k ∧ k < w.heap.size := World.ownsRow.lt h
theorem Owns.fr {F : Nat → Prop} {w w' : World} {base : Nat} {v : Value} {l : Bytes} (h : Owns w base v l) (k : Fr F w w') (hF : ∀ x, base ≤ x → x < w.heap.size → ¬ F x) : Owns w' base v l := by
  refine ⟨h.1, ?_⟩
  rcases h.2 with hn | ⟨g, cap, cur, rfl, hb, hg, r⟩
  · exact .inl hn
  · exact .inr ⟨g, cap, cur, rfl, hb, k.heap (hF g hb (Array.getElem?_eq_some_iff.1 hg).1) hg, r⟩
theorem Fr.append {F : Nat → Prop} {w0 w w' : World} {base : Nat} {v : Value} {l : Bytes} (h : Fr F w0 w) (k : Fr (fun x => v.ownBlock = some x) w w') (ho : Owns w base v l) (hb : w0.heap.size ≤ base) : Fr F w0 w' :=
  h.trans k fun x e => .inr (Nat.le_trans hb (ho.lt x e).1)
theorem IsBytes.one (w : World) (x : BitVec 8) (fr : Nat × Nat) : IsBytes (w.alloc (.cells #[.int .u8 (B8 x)] 5 fr)) (some ⟨w.heap.size, 0, none⟩) 1 1 [x] :=
  ⟨rfl, Nat.le_refl _, by omega, (fun e => by cases e), fun i hi => ⟨w.heap.size, 0, rfl, by
    obtain rfl : i = 0 := by omega
    rw [cell_of_row _ w.heap.size (0 + 0) _ _ _ (heap_alloc_new w _)]; rfl⟩⟩

section
variable {w : World} {ops : Array Oper} {rest : List Oper} {a : Act} {Q : Exit → Act → World → Prop}
/-- 'append(s, x...)', s the call's own, x whatever bytes. -/
theorem wpList_append_bytes (dst : Option Tmp) (ty : TypeId) (pos : String) (aft : Array Edge) (s x : Operand)
    (base : Nat) (v : Value) (l : Bytes) (hs : a.eval s = v) (hown : Owns w base v l) (ad : Option Addr) (m c : Nat) (l2 : Bytes) (hx : a.eval x = .slice ad m c) (hb : IsBytes w ad m c l2)
    (hsum : l.length + m ≤ 140737488355328) (hbase : base ≤ w.heap.size)
    (h : ∀ v' w', Owns w' base v' (l ++ l2) → Fr (fun k => v.ownBlock = some k) w w' → wpList Try.prog ops Q rest (a.put dst v') w') :
    wpList Try.prog ops Q (⟨dst, .call ⟨.builtin .append, #[s, x], #[22, 22]⟩, ty, pos, aft, none⟩ :: rest) a w := by
  obtain ⟨i, hi, hz0, hz1, hz2⟩ := info_parts info_u8
  cases ad with
  | none =>
    have hc : c = 0 := hb.2.2.2.1 rfl
    have hm : m = 0 := by have := hb.2.1; omega
    subst hc; subst hm
    obtain rfl : l2 = [] := List.eq_nil_of_length_eq_zero hb.1
    refine wpList_append_own_none (by rfl) s x 22 (by rfl) base 5 i 1 Try.underlying22 hi v l.length (l.map cellB) hs hown hx ?_
    exact h v w (by rw [List.append_nil]; exact hown) (Fr.refl _ _)
  | some ad =>
    refine wpList_append_own w (by rfl) s x 22 (by rfl) base 5 i (.int .u8 0) 1 1 Try.underlying22 hi hz0 hz1 hz2 (by rfl) (by decide) v l.length (l.map cellB) hs hown ad m c (l2.map cellB) hx
      (by rw [List.length_map, hb.1, Nat.mul_one]) ?_ ?_ (by unfold maxLen; omega) (by omega) hbase ?_
    · intro j u hj
      obtain ⟨hl, rfl⟩ := getD_cell hj
      obtain ⟨b, off, e, hc⟩ := hb.2.2.2.2 j (by rw [← hb.1]; exact hl)
      cases e
      rw [Addr.add_lit]; exact hc
    · intro u hu
      obtain ⟨y, _, rfl⟩ := List.mem_map.1 hu
      rfl
    · intro v' w' hown' hg _
      refine h v' w' ?_ ⟨hg.os, hg.tape, hg.output, hg.size, fun k hk hne => hg.block k hk fun e => hne e.symm⟩
      unfold Owns
      rw [List.length_append, List.map_append, hb.1]
      exact hown'
/-- 'append(s, x...)', s a slice that came in and has no room, x at least a byte: a new array. -/
theorem wpList_append_full (dst : Option Tmp) (ty : TypeId) (pos : String) (aft : Array Edge) (s x : Operand)
    (ao : Option Addr) (n : Nat) (l : Bytes) (hs : a.eval s = .slice ao n n) (hl : IsBytes w ao n n l) (ad : Option Addr) (m c : Nat) (l2 : Bytes) (hx : a.eval x = .slice ad m c) (hb : IsBytes w ad m c l2)
    (hm : 0 < m) (hsum : n + m ≤ 140737488355328)
    (h : ∀ v' w', Owns w' w.heap.size v' (l ++ l2) → Fr No w w' → wpList Try.prog ops Q rest (a.put dst v') w') :
    wpList Try.prog ops Q (⟨dst, .call ⟨.builtin .append, #[s, x], #[22, 22]⟩, ty, pos, aft, none⟩ :: rest) a w := by
  obtain ⟨i, hi, hz0, hz1, hz2⟩ := info_parts info_u8
  obtain ⟨b, off, rfl, hc⟩ := hb.known hm
  refine wpList_append_grows w (by rfl) s x 22 (by rfl) 5 i (.int .u8 0) 1 1 Try.underlying22 hi hz0 hz1 hz2 (by rfl) (by decide) ao n n (l.map cellB) hs (fun e => ⟨hl.2.2.2.1 e, hl.2.2.2.1 e⟩)
    (by rw [List.length_map, hl.1, Nat.mul_one]) ?_ ⟨b, off, none⟩ m c (l2.map cellB) hx (by rw [List.length_map, hb.1, Nat.mul_one]) ?_ ?_ (by omega) (by unfold maxLen; omega) (by omega) ?_
  · rintro ad rfl j u hj
    obtain ⟨hjl, rfl⟩ := getD_cell hj
    obtain ⟨b', off', e, hc'⟩ := hl.2.2.2.2 j (by rw [← hl.1]; exact hjl)
    cases e
    rw [Addr.add_lit]; exact hc'
  · intro j u hj
    obtain ⟨hjl, rfl⟩ := getD_cell hj
    rw [Addr.add_lit]; exact hc j (by rw [← hb.1]; exact hjl)
  · intro u hu
    obtain ⟨y, _, rfl⟩ := List.mem_map.1 hu
    rfl
  · intro v' w' hown' hg
    refine h v' w' ?_ ⟨hg.os, hg.tape, hg.output, hg.size, fun k hk hne => hg.block k hk (by simp)⟩
    unfold Owns
    rw [List.length_append, List.map_append, hl.1, hb.1]
    exact hown'
end

/-! ### Strings -/
def str (l : Bytes) : ByteArray := ⟨(l.map UInt8.ofBitVec).toArray⟩
theorem str_toList (l : Bytes) : (str l).toList = l.map UInt8.ofBitVec := by
  rw [ByteArray.toList_eq]; simp [str]
theorem str_inj {l l' : Bytes} (h : str l = str l') : l = l' := by
  have h1 : l.map UInt8.ofBitVec = l'.map UInt8.ofBitVec := by rw [← str_toList, ← str_toList, h]
  exact (List.map_inj_right (fun x y e => by simpa using congrArg UInt8.toBitVec e)).1 h1
@[go_sem ↓] theorem str_beq (l l' : Bytes) : ((str l).toList == (str l').toList) = (l == l') := by
  rw [Bool.eq_iff_iff]
  simp only [beq_iff_eq, str_toList]
  exact List.map_inj_right (fun x y e => by simpa using congrArg UInt8.toBitVec e)
@[go_sem ↓] theorem str_size (l : Bytes) : (str l).size = l.length := by simp [str, ByteArray.size]
@[go_sem] theorem str_append (l l' : Bytes) : str l ++ str l' = str (l ++ l') := by
  apply ByteArray.ext; simp [str, ByteArray.data_append]
/-- Whatever string is the string of its bytes. -/
theorem str_of (s : ByteArray) : s = str (s.data.toList.map UInt8.toBitVec) := by
  apply ByteArray.ext
  simp [str, List.map_map, Function.comp_def]
theorem run_string_of {w : World} {a : Option Addr} {n c : Nat} {l : Bytes} (h : IsBytes w a n c l) :
    (convert 22 9 (.slice a n c)).run Try.prog w = .ok (.string (str l)) w := by
  cases a with
  | none =>
    have hc : c = 0 := h.2.2.2.1 rfl
    have hm : n = 0 := by have := h.2.1; omega
    subst hm
    obtain rfl : l = [] := List.eq_nil_of_length_eq_zero h.1
    exact run_convert_bytes_nil w _ _ Try.underlying22 Try.underlying5 _ _ _ Try.underlying9
  | some ad =>
    have hl := run_loadCells_list (P := Try.prog) w ad ((l.map B8).map (Value.int .u8)) (fun j v hj => by
      have hj' : (l.map cellB)[j]? = some v := by rw [← hj, List.map_map]; rfl
      obtain ⟨hjl, rfl⟩ := getD_cell hj'
      obtain ⟨b, off, e, hc⟩ := h.2.2.2.2 j (by rw [← h.1]; exact hjl)
      cases e
      rw [Addr.add_lit]; exact hc)
    rw [List.length_map, List.length_map, h.1] at hl
    rw [run_convert_bytes_string w _ _ _ (some ad) n c Try.underlying22 Try.underlying5 Try.underlying9, run_bytesToString w ad n c _ hl, foldl_push_bytes]
    congr 2
    apply ByteArray.ext
    simp only [str, List.map_map, ByteArray.data_empty, Array.empty_append]
    congr 1
    apply List.map_congr_left
    intro b _
    simp only [Function.comp_def, B8, Int.toNat_natCast]
    apply UInt8.toNat_inj.1
    simp
section
variable {w : World} {ops : Array Oper} {rest : List Oper} {a : Act} {Q : Exit → Act → World → Prop}
/-- 'string(x)' of bytes. -/
theorem wpList_string (dst : Option Tmp) (ty : TypeId) (pos : String) (aft : Array Edge) (x : Operand)
    (ad : Option Addr) (n c : Nat) (l : Bytes) (hx : a.eval x = .slice ad n c) (hb : IsBytes w ad n c l)
    (h : wpList Try.prog ops Q rest (a.put dst (.string (str l))) w) :
    wpList Try.prog ops Q (⟨dst, .convert 22 9 x, ty, pos, aft, none⟩ :: rest) a w := by
  refine wpList_plain rfl fun K hK => ?_
  unfold Oper.wp
  simp [execOp, hx, run_string_of hb, Result.andThen]
  exact hK _ _ h
end
end Go.Proofs.Ytakjdoioffogcaa
