/- Laws for the walk, over this program: bytes appended to a slice of the call's own; bytes made a string; strings held against each other. -/
import Derived.Test.YteicdilbmaboiaaDoorBytes
import Derived.Test.YteicdilbmaboiaaDoorProg
import Derived.Laws.AppendOwnNone
import Derived.ArgAppend
import Derived.Maps.AppendAt
namespace Go.Proofs.YteicdilbmaboiaaDoor
set_option linter.unusedVariables false
set_option linter.unusedSimpArgs false
open Go.RowKit

def cellB (b : BitVec 8) : Value := .int .u8 (B8 b)
/-- The slice value v is the call's own (blocks from base on) and holds the bytes l. -/
def Owns (w : World) (base : Nat) (v : Value) (l : Bytes) : Prop := w.ownsRow base 5 1 v l.length (l.map cellB)
theorem Owns.nil (w : World) (base : Nat) : Owns w base (.slice none 0 0) [] := World.ownsRow_nil w base _ 1
theorem info_u8 : (Tryd.prog.info? 5).map (fun i => (i.zero, i.size, i.bytes)) = some (some (.int .u8 0), 1, 1) := by kernel_rfl

theorem getD_cell {l : Bytes} {j : Nat} {u : Value} (h : (l.map cellB)[j]? = some u) : j < l.length ∧ u = .int .u8 (B8 (l.getD j 0)) := by
  rw [List.getElem?_map] at h
  cases hl : l[j]? with
  | none => rw [hl] at h; cases h
  | some x =>
    rw [hl] at h
    simp only [Option.map_some, Option.some.injEq] at h
    refine ⟨(List.getElem?_eq_some_iff.1 hl).1, ?_⟩
    rw [← h, List.getD_eq_getElem?_getD, hl]; rfl
theorem Owns.bytes {w : World} {base : Nat} {v : Value} {l : Bytes} (h : Owns w base v l) :
    ∃ a c, v = .slice a l.length c ∧ IsBytes w a l.length c l ∧ (∀ x, a = some x → base ≤ x.block ∧ x.block < w.heap.size) := by
  rcases h.2 with ⟨rfl, hn⟩ | ⟨g, cap, cur, rfl, hb, hg, hnc, hcm, hcs, ht⟩
  · obtain rfl : l = [] := List.eq_nil_of_length_eq_zero hn
    exact ⟨none, 0, rfl, IsBytes.nil w, fun x hx => by cases hx⟩
  · have hlt : g < w.heap.size := (Array.getElem?_eq_some_iff.1 hg).1
    refine ⟨_, _, rfl, ⟨rfl, hnc, by unfold maxLen at hcm; omega, (fun e => by cases e), fun i hi => ⟨g, 0, rfl, ?_⟩⟩, (fun x hx => by cases hx; exact ⟨hb, hlt⟩)⟩
    rw [cell_of_row w g (0 + i) cur _ _ hg, Nat.zero_add]
    have h1 : cur.toList[i]? = (l.map cellB)[i]? := by
      rw [← ht, Nat.mul_one, List.getElem?_take, if_pos hi]
    rw [← Array.getElem?_toList, h1, List.getElem?_map, List.getD_eq_getElem?_getD, List.getElem?_eq_getElem hi]; rfl
theorem Owns.isBytes {w : World} {base : Nat} {a : Option Addr} {n c : Nat} {l : Bytes} (h : Owns w base (.slice a n c) l) : IsBytes w a n c l := by
  obtain ⟨a', c', e, hb, _⟩ := h.bytes
  cases e
  exact hb
theorem Owns.clear {w : World} {base : Nat} {a : Option Addr} {n c : Nat} {l : Bytes} (h : Owns w base (.slice a n c) l) : Owns w base (.slice (subAddr a 0 c 1) 0 c) [] := by
  rw [subAddr_zero]
  rcases h.2 with ⟨e, hn⟩ | ⟨g, cap, cur, e, hb, hg, hnc, hcm, hcs, ht⟩
  · cases e; exact Owns.nil w base
  · cases e
    exact ⟨rfl, .inr ⟨g, c, cur, rfl, hb, hg, Nat.zero_le _, hcm, hcs, by simp⟩⟩
theorem Owns.alloc {w : World} {base : Nat} {v : Value} {l : Bytes} (h : Owns w base v l) (o : Obj) : Owns (w.alloc o) base v l := World.ownsRow.alloc h o
theorem Owns.mono {w : World} {base base' : Nat} {v : Value} {l : Bytes} (h : Owns w base v l) (hb : base' ≤ base) : Owns w base' v l := by
  refine ⟨h.1, ?_⟩
  rcases h.2 with hn | ⟨g, cap, cur, e, hg, r⟩
  · exact .inl hn
  · exact .inr ⟨g, cap, cur, e, Nat.le_trans hb hg, r⟩
theorem Owns.lt {w : World} {base : Nat} {v : Value} {l : Bytes} (h : Owns w base v l) : ∀ k, v.ownBlock = some k → base ≤ k ∧ k < w.heap.size := World.ownsRow.lt h
theorem Owns.fr {F : Nat → Prop} {w w' : World} {base : Nat} {v : Value} {l : Bytes} (h : Owns w base v l) (k : Fr F w w') (hF : ∀ x, v.ownBlock = some x → ¬ F x) : Owns w' base v l := by
  refine ⟨h.1, ?_⟩
  rcases h.2 with hn | ⟨g, cap, cur, rfl, hb, hg, r⟩
  · exact .inl hn
  · exact .inr ⟨g, cap, cur, rfl, hb, k.heap (hF g rfl) hg, r⟩
theorem Owns.no {w w' : World} {base : Nat} {v : Value} {l : Bytes} (h : Owns w base v l) (k : Fr No w w') : Owns w' base v l := h.fr k fun _ _ f => f
theorem Fr.append {F : Nat → Prop} {w0 w w' : World} {base : Nat} {v : Value} {l : Bytes} (h : Fr F w0 w) (k : Fr (fun x => v.ownBlock = some x) w w') (ho : Owns w base v l) (hb : w0.heap.size ≤ base) : Fr F w0 w' :=
  h.trans k fun x e => .inr (Nat.le_trans hb (ho.lt x e).1)
theorem IsBytes.one (w : World) (x : BitVec 8) (fr : Nat × Nat) : IsBytes (w.alloc (.cells #[.int .u8 (B8 x)] 5 fr)) (some ⟨w.heap.size, 0, none⟩) 1 1 [x] :=
  ⟨rfl, Nat.le_refl _, by omega, (fun e => by cases e), fun i hi => ⟨w.heap.size, 0, rfl, by
    obtain rfl : i = 0 := by omega
    rw [cell_of_row _ w.heap.size (0 + 0) _ _ _ (heap_alloc_new w _)]; rfl⟩⟩

/-- The block that holds the bytes of v' is v's, or new. -/
def NewOr (w : World) (v v' : Value) : Prop := v'.ownBlock = v.ownBlock ∨ v'.ownBlock = some w.heap.size
theorem run_append_bytes {w : World} (ty : TypeId) {base : Nat} {v : Value} {l : Bytes} (hown : Owns w base v l) {ad : Option Addr} {m c : Nat} {l2 : Bytes} (hb : IsBytes w ad m c l2)
    (hsum : l.length + m ≤ 140737488355328) (hbase : base ≤ w.heap.size) :
    ∃ v' w', (Builtin.append_ #[22, 22] ty #[v, .slice ad m c]).run Tryd.prog w = .ok v' w' ∧ Owns w' base v' (l ++ l2) ∧ Fr (fun k => v.ownBlock = some k) w w' ∧ NewOr w v v' := by
  obtain ⟨i, hi, hz0, hz1, hz2⟩ := info_parts info_u8
  cases ad with
  | none =>
    have hc : c = 0 := hb.2.2.2.1 rfl
    have hm : m = 0 := by have := hb.2.1; omega
    subst hc; subst hm
    obtain rfl : l2 = [] := List.eq_nil_of_length_eq_zero hb.1
    have hrun := run_append_owned_none (P := Tryd.prog) (w := w) base 22 ty 5 i 1 Tryd.underlying22 hi v l.length (l.map cellB) hown
    exact ⟨v, w, hrun, by rw [List.append_nil]; exact hown, Fr.refl _ _, .inl rfl⟩
  | some ad =>
    obtain ⟨v', w', hrun, hown', hg, _, hat⟩ := run_append_own_at (P := Tryd.prog) w base 22 ty 5 i (.int .u8 0) 1 1 Tryd.underlying22 hi hz0 hz1 hz2 (by rfl) (by decide) v l.length (l.map cellB) hown ad m c (l2.map cellB)
      (by rw [List.length_map, hb.1, Nat.mul_one]) (fun j u hj => by
        obtain ⟨hl, rfl⟩ := getD_cell hj
        obtain ⟨b, off, e, hc⟩ := hb.2.2.2.2 j (by rw [← hb.1]; exact hl)
        cases e
        rw [Addr.add_lit]; exact hc) (fun u hu => by
        obtain ⟨y, _, rfl⟩ := List.mem_map.1 hu
        rfl) (by unfold maxLen; omega) (by omega) hbase
    refine ⟨v', w', hrun, ?_, ⟨hg.os, hg.tape, hg.output, hg.size, fun k hk hne => hg.block k hk fun e => hne e.symm⟩, hat⟩
    unfold Owns
    rw [List.length_append, List.map_append, hb.1]
    exact hown'
section
variable {w : World} {ops : Array Oper} {rest : List Oper} {a : Act} {Q : Exit → Act → World → Prop}
/-- 'append(s, x...)', s the call's own, x whatever bytes, as one operation. -/
theorem wp_append_bytes {K : Act → World → Prop} (dst : Option Tmp) (ty : TypeId) (pos : String) (aft : Array Edge) (s x : Operand)
    (base : Nat) (v : Value) (l : Bytes) (hs : a.eval s = v) (hown : Owns w base v l) (ad : Option Addr) (m c : Nat) (l2 : Bytes) (hx : a.eval x = .slice ad m c) (hb : IsBytes w ad m c l2)
    (hsum : l.length + m ≤ 140737488355328) (hbase : base ≤ w.heap.size)
    (h : ∀ v' w', Owns w' base v' (l ++ l2) → Fr (fun k => v.ownBlock = some k) w w' → NewOr w v v' → K (a.put dst v') w') :
    Oper.wp Tryd.prog ⟨dst, .call ⟨.builtin .append, #[s, x], #[22, 22]⟩, ty, pos, aft, none⟩ a w K Q := by
  obtain ⟨v', w', hr, h2, h3, h4⟩ := run_append_bytes ty hown hb hsum hbase
  unfold Oper.wp execOp
  simp only [resolve, invoke, builtin, Sem.run_bind, Sem.run_pure, Result.andThen_ok, List.map_toArray, List.map_cons, List.map_nil, hs, hx, hr]
  exact h v' w' h2 h3 h4
theorem wpList_append_bytes (dst : Option Tmp) (ty : TypeId) (pos : String) (aft : Array Edge) (s x : Operand)
    (base : Nat) (v : Value) (l : Bytes) (hs : a.eval s = v) (hown : Owns w base v l) (ad : Option Addr) (m c : Nat) (l2 : Bytes) (hx : a.eval x = .slice ad m c) (hb : IsBytes w ad m c l2)
    (hsum : l.length + m ≤ 140737488355328) (hbase : base ≤ w.heap.size)
    (h : ∀ v' w', Owns w' base v' (l ++ l2) → Fr (fun k => v.ownBlock = some k) w w' → NewOr w v v' → wpList Tryd.prog ops Q rest (a.put dst v') w') :
    wpList Tryd.prog ops Q (⟨dst, .call ⟨.builtin .append, #[s, x], #[22, 22]⟩, ty, pos, aft, none⟩ :: rest) a w :=
  wpList_plain rfl fun K hK => wp_append_bytes dst ty pos aft s x base v l hs hown ad m c l2 hx hb hsum hbase fun v' w' h1 h2 h3 => hK _ _ (h v' w' h1 h2 h3)
/-- 'append(s, x...)', s a slice that came in and has no room, x at least a byte: a new array. -/
theorem wpList_append_full (dst : Option Tmp) (ty : TypeId) (pos : String) (aft : Array Edge) (s x : Operand)
    (ao : Option Addr) (n : Nat) (l : Bytes) (hs : a.eval s = .slice ao n n) (hl : IsBytes w ao n n l) (ad : Option Addr) (m c : Nat) (l2 : Bytes) (hx : a.eval x = .slice ad m c) (hb : IsBytes w ad m c l2)
    (hm : 0 < m) (hsum : n + m ≤ 140737488355328)
    (h : ∀ v' w', Owns w' w.heap.size v' (l ++ l2) → Fr No w w' → wpList Tryd.prog ops Q rest (a.put dst v') w') :
    wpList Tryd.prog ops Q (⟨dst, .call ⟨.builtin .append, #[s, x], #[22, 22]⟩, ty, pos, aft, none⟩ :: rest) a w := by
  obtain ⟨i, hi, hz0, hz1, hz2⟩ := info_parts info_u8
  obtain ⟨b, off, rfl, hc⟩ := hb.known hm
  refine wpList_append_grows w (by rfl) s x 22 (by rfl) 5 i (.int .u8 0) 1 1 Tryd.underlying22 hi hz0 hz1 hz2 (by rfl) (by decide) ao n n (l.map cellB) hs (fun e => ⟨hl.2.2.2.1 e, hl.2.2.2.1 e⟩)
    (by rw [List.length_map, hl.1, Nat.mul_one]) ?_ ⟨b, off, none⟩ m c (l2.map cellB) hx (by rw [List.length_map, hb.1, Nat.mul_one]) ?_ ?_ (by omega) (by unfold maxLen; omega) (by omega) ?_
  · rintro ad rfl j u hj
    obtain ⟨hjl, rfl⟩ := getD_cell hj
    obtain ⟨b', off', e, hc'⟩ := hl.2.2.2.2 j (by rw [← hl.1]; exact hjl)
    cases e
    rw [Addr.add_lit]; exact hc'
  · intro j u hj
    obtain ⟨hjl, rfl⟩ := getD_cell hj
    rw [Addr.add_lit]; exact hc j (by rw [← hb.1]; exact hjl)
  · intro u hu
    obtain ⟨y, _, rfl⟩ := List.mem_map.1 hu
    rfl
  · intro v' w' hown' hg
    refine h v' w' ?_ ⟨hg.os, hg.tape, hg.output, hg.size, fun k hk hne => hg.block k hk (by simp)⟩
    unfold Owns
    rw [List.length_append, List.map_append, hl.1, hb.1]
    exact hown'
end

/-! ### Strings -/
def str (l : Bytes) : ByteArray := ⟨(l.map UInt8.ofBitVec).toArray⟩
theorem str_toList (l : Bytes) : (str l).toList = l.map UInt8.ofBitVec := by
  rw [ByteArray.toList_eq]; simp [str]
theorem str_inj {l l' : Bytes} (h : str l = str l') : l = l' := by
  have h1 : l.map UInt8.ofBitVec = l'.map UInt8.ofBitVec := by rw [← str_toList, ← str_toList, h]
  exact (List.map_inj_right (fun x y e => by simpa using congrArg UInt8.toBitVec e)).1 h1
@[go_sem ↓] theorem str_beq (l l' : Bytes) : ((str l).toList == (str l').toList) = (l == l') := by
  rw [Bool.eq_iff_iff]
  simp only [beq_iff_eq, str_toList]
  exact List.map_inj_right (fun x y e => by simpa using congrArg UInt8.toBitVec e)
@[go_sem ↓] theorem str_size (l : Bytes) : (str l).size = l.length := by simp [str, ByteArray.size]
@[go_sem] theorem str_append (l l' : Bytes) : str l ++ str l' = str (l ++ l') := by
  apply ByteArray.ext; simp [str, ByteArray.data_append]
/-- Whatever string is the string of its bytes. -/
theorem str_of (s : ByteArray) : s = str (s.data.toList.map UInt8.toBitVec) := by
  apply ByteArray.ext
  simp [str, List.map_map, Function.comp_def]
theorem run_string_of {w : World} {a : Option Addr} {n c : Nat} {l : Bytes} (h : IsBytes w a n c l) :
    (convert 22 9 (.slice a n c)).run Tryd.prog w = .ok (.string (str l)) w := by
  cases a with
  | none =>
    have hc : c = 0 := h.2.2.2.1 rfl
    have hm : n = 0 := by have := h.2.1; omega
    subst hm
    obtain rfl : l = [] := List.eq_nil_of_length_eq_zero h.1
    exact run_convert_bytes_nil w _ _ Tryd.underlying22 Tryd.underlying5 _ _ _ Tryd.underlying9
  | some ad =>
    have hl := run_loadCells_list (P := Tryd.prog) w ad ((l.map B8).map (Value.int .u8)) (fun j v hj => by
      have hj' : (l.map cellB)[j]? = some v := by rw [← hj, List.map_map]; rfl
      obtain ⟨hjl, rfl⟩ := getD_cell hj'
      obtain ⟨b, off, e, hc⟩ := h.2.2.2.2 j (by rw [← h.1]; exact hjl)
      cases e
      rw [Addr.add_lit]; exact hc)
    rw [List.length_map, List.length_map, h.1] at hl
    rw [run_convert_bytes_string w _ _ _ (some ad) n c Tryd.underlying22 Tryd.underlying5 Tryd.underlying9, run_bytesToString w ad n c _ hl, foldl_push_bytes]
    congr 2
    apply ByteArray.ext
    simp only [str, List.map_map, ByteArray.data_empty, Array.empty_append]
    congr 1
    apply List.map_congr_left
    intro b _
    simp only [Function.comp_def, B8, Int.toNat_natCast]
    apply UInt8.toNat_inj.1
    simp
section
variable {w : World} {ops : Array Oper} {rest : List Oper} {a : Act} {Q : Exit → Act → World → Prop}
/-- 'string(x)' of bytes. -/
theorem wpList_string (dst : Option Tmp) (ty : TypeId) (pos : String) (aft : Array Edge) (x : Operand)
    (ad : Option Addr) (n c : Nat) (l : Bytes) (hx : a.eval x = .slice ad n c) (hb : IsBytes w ad n c l)
    (h : wpList Tryd.prog ops Q rest (a.put dst (.string (str l))) w) :
    wpList Tryd.prog ops Q (⟨dst, .convert 22 9 x, ty, pos, aft, none⟩ :: rest) a w := by
  refine wpList_plain rfl fun K hK => ?_
  unfold Oper.wp
  simp [execOp, hx, run_string_of hb, Result.andThen]
  exact hK _ _ h
end
end Go.Proofs.YteicdilbmaboiaaDoor
