/- Mem RowKit Gives Clone Mix Rot Put -/
import Derived.ArgAppend
import Derived.Below
import Derived.ChangeOld
import Derived.Laws.AppendOwnNone
import Derived.Maps.AppendAt
import Derived.OpenShut
import Derived.ProofKit
import Derived.ShutString
import Derived.SizedLaws
import Derived.Test.YtidlpihoafnobaaGreatProg
import Derived.Test.YtidlpihoafnobaaGreatRows
import Derived.WalkKit
import Derived.Test.YtidlpihoafnobaaGreatPM86Plain
set_option linter.unusedVariables false
set_option linter.unusedSimpArgs false
namespace Go.Proofs.YtidlpihoafnobaaGreat
set_option maxRecDepth 100000
open Go.RowKit
def cellB (b : BitVec 8) : Value := .int .u8 (B8 b)
def Owns (w : World) (base : Nat) (v : Value) (l : Bytes) : Prop := w.ownsRow base 5 1 v l.length (l.map cellB)
theorem Owns.nil (w : World) (base : Nat) : Owns w base (.slice none 0 0) [] := World.ownsRow_nil w base _ 1
theorem info_u8 : (Tryz.prog.info? 5).map (fun i => (i.zero, i.size, i.bytes)) = some (some (.int .u8 0), 1, 1) := by kernel_rfl
theorem getD_cell {l : Bytes} {j : Nat} {u : Value} (h : (l.map cellB)[j]? = some u) : j < l.length ∧ u = .int .u8 (B8 (l.getD j 0)) := by
 rw [List.getElem?_map] at h
 cases hl : l[j]? with
 | none => rw [hl] at h; cases h
 | some x =>
  rw [hl] at h
  simp only [Option.map_some, Option.some.injEq] at h
  refine ⟨(List.getElem?_eq_some_iff.1 hl).1, ?_⟩
  rw [← h, List.getD_eq_getElem?_getD, hl]; rfl
theorem Owns.bytes {w : World} {base : Nat} {v : Value} {l : Bytes} (h : Owns w base v l) :
 ∃ a c, v = .slice a l.length c ∧ IsBytes w a l.length c l ∧ (∀ x, a = some x → base ≤ x.block ∧ x.block < w.heap.size) := by
 rcases h.2 with ⟨rfl, hn⟩ | ⟨g, cap, cur, rfl, hb, hg, hnc, hcm, hcs, ht⟩
 · obtain rfl : l = [] := List.eq_nil_of_length_eq_zero hn
   exact ⟨none, 0, rfl, IsBytes.nil w, fun x hx => by cases hx⟩
 · have hlt : g < w.heap.size := (Array.getElem?_eq_some_iff.1 hg).1
   refine ⟨_, _, rfl, ⟨rfl, hnc, by unfold maxLen at hcm; omega, (fun e => by cases e), fun i hi => ⟨g, 0, rfl, ?_⟩⟩, (fun x hx => by cases hx; exact ⟨hb, hlt⟩)⟩
   rw [cell_of_row w g (0 + i) cur _ _ hg, Nat.zero_add]
   have h1 : cur.toList[i]? = (l.map cellB)[i]? := by
    rw [← ht, Nat.mul_one, List.getElem?_take, if_pos hi]
   rw [← Array.getElem?_toList, h1, List.getElem?_map, List.getD_eq_getElem?_getD, List.getElem?_eq_getElem hi]; rfl
theorem Owns.clear {w : World} {base : Nat} {a : Option Addr} {n c : Nat} {l : Bytes} (h : Owns w base (.slice a n c) l) : Owns w base (.slice (subAddr a 0 c 1) 0 c) [] := by
 rw [subAddr_zero]
 rcases h.2 with ⟨e, hn⟩ | ⟨g, cap, cur, e, hb, hg, hnc, hcm, hcs, ht⟩
 · cases e; exact Owns.nil w base
 · cases e
   exact ⟨rfl, .inr ⟨g, c, cur, rfl, hb, hg, Nat.zero_le _, hcm, hcs, by simp⟩⟩
theorem Owns.alloc {w : World} {base : Nat} {v : Value} {l : Bytes} (h : Owns w base v l) (o : Obj) : Owns (w.alloc o) base v l := World.ownsRow.alloc h o
theorem Owns.mono {w : World} {base base' : Nat} {v : Value} {l : Bytes} (h : Owns w base v l) (hb : base' ≤ base) : Owns w base' v l := by
 refine ⟨h.1, ?_⟩
 rcases h.2 with hn | ⟨g, cap, cur, e, hg, r⟩
 · exact .inl hn
 · exact .inr ⟨g, cap, cur, e, Nat.le_trans hb hg, r⟩
theorem Owns.lt {w : World} {base : Nat} {v : Value} {l : Bytes} (h : Owns w base v l) : ∀ k, v.ownBlock = some k → base ≤ k ∧ k < w.heap.size := World.ownsRow.lt h
theorem Owns.fr {F : Nat → Prop} {w w' : World} {base : Nat} {v : Value} {l : Bytes} (h : Owns w base v l) (k : Fr F w w') (hF : ∀ x, v.ownBlock = some x → ¬ F x) : Owns w' base v l := by
 refine ⟨h.1, ?_⟩
 rcases h.2 with hn | ⟨g, cap, cur, rfl, hb, hg, r⟩
 · exact .inl hn
 · exact .inr ⟨g, cap, cur, rfl, hb, k.heap (hF g rfl) hg, r⟩
theorem Owns.no {w w' : World} {base : Nat} {v : Value} {l : Bytes} (h : Owns w base v l) (k : Fr No w w') : Owns w' base v l := h.fr k fun _ _ f => f
theorem Fr.append {F : Nat → Prop} {w0 w w' : World} {base : Nat} {v : Value} {l : Bytes} (h : Fr F w0 w) (k : Fr (fun x => v.ownBlock = some x) w w') (ho : Owns w base v l) (hb : w0.heap.size ≤ base) : Fr F w0 w' :=
 h.trans k fun x e => .inr (Nat.le_trans hb (ho.lt x e).1)
theorem IsBytes.one (w : World) (x : BitVec 8) (fr : Nat × Nat) : IsBytes (w.alloc (.cells #[.int .u8 (B8 x)] 5 fr)) (some ⟨w.heap.size, 0, none⟩) 1 1 [x] :=
 ⟨rfl, Nat.le_refl _, by omega, (fun e => by cases e), fun i hi => ⟨w.heap.size, 0, rfl, by
  obtain rfl : i = 0 := by omega
  rw [cell_of_row _ w.heap.size (0 + 0) _ _ _ (heap_alloc_new w _)]; rfl⟩⟩
def NewOr (w : World) (v v' : Value) : Prop := v'.ownBlock = v.ownBlock ∨ v'.ownBlock = some w.heap.size
theorem run_append_bytes {w : World} (ty : TypeId) {base : Nat} {v : Value} {l : Bytes} (hown : Owns w base v l) {ad : Option Addr} {m c : Nat} {l2 : Bytes} (hb : IsBytes w ad m c l2)
 (hsum : l.length + m ≤ 140737488355328) (hbase : base ≤ w.heap.size) :
 ∃ v' w', (Builtin.append_ #[25, 25] ty #[v, .slice ad m c]).run Tryz.prog w = .ok v' w' ∧ Owns w' base v' (l ++ l2) ∧ Fr (fun k => v.ownBlock = some k) w w' ∧ NewOr w v v' := by
 obtain ⟨i, hi, hz0, hz1, hz2⟩ := info_parts info_u8
 cases ad with
 | none =>
  have hc : c = 0 := hb.2.2.2.1 rfl
  have hm : m = 0 := by have := hb.2.1; omega
  subst hc; subst hm
  obtain rfl : l2 = [] := List.eq_nil_of_length_eq_zero hb.1
  have hrun := run_append_owned_none (P := Tryz.prog) (w := w) base 25 ty 5 i 1 Tryz.underlying25 hi v l.length (l.map cellB) hown
  exact ⟨v, w, hrun, by rw [List.append_nil]; exact hown, Fr.refl _ _, .inl rfl⟩
 | some ad =>
  obtain ⟨v', w', hrun, hown', hg, _, hat⟩ := run_append_own_at (P := Tryz.prog) w base 25 ty 5 i (.int .u8 0) 1 1 Tryz.underlying25 hi hz0 hz1 hz2 (by rfl) (by decide) v l.length (l.map cellB) hown ad m c (l2.map cellB)
   (by rw [List.length_map, hb.1, Nat.mul_one]) (fun j u hj => by
    obtain ⟨hl, rfl⟩ := getD_cell hj
    obtain ⟨b, off, e, hc⟩ := hb.2.2.2.2 j (by rw [← hb.1]; exact hl)
    cases e
    rw [Addr.add_lit]; exact hc) (fun u hu => by
    obtain ⟨y, _, rfl⟩ := List.mem_map.1 hu
    rfl) (by unfold maxLen; omega) (by omega) hbase
  refine ⟨v', w', hrun, ?_, ⟨hg.os, hg.tape, hg.output, hg.size, fun k hk hne => hg.block k hk fun e => hne e.symm⟩, hat⟩
  unfold Owns
  rw [List.length_append, List.map_append, hb.1]
  exact hown'
section
variable {w : World} {ops : Array Oper} {rest : List Oper} {a : Act} {Q : Exit → Act → World → Prop}
theorem wp_append_bytes {K : Act → World → Prop} (dst : Option Tmp) (ty : TypeId) (pos : String) (aft : Array Edge) (s x : Operand)
 (base : Nat) (v : Value) (l : Bytes) (hs : a.eval s = v) (hown : Owns w base v l) (ad : Option Addr) (m c : Nat) (l2 : Bytes) (hx : a.eval x = .slice ad m c) (hb : IsBytes w ad m c l2)
 (hsum : l.length + m ≤ 140737488355328) (hbase : base ≤ w.heap.size)
 (h : ∀ v' w', Owns w' base v' (l ++ l2) → Fr (fun k => v.ownBlock = some k) w w' → NewOr w v v' → K (a.put dst v') w') :
 Oper.wp Tryz.prog ⟨dst, .call ⟨.builtin .append, #[s, x], #[25, 25]⟩, ty, pos, aft, none⟩ a w K Q := by
 obtain ⟨v', w', hr, h2, h3, h4⟩ := run_append_bytes ty hown hb hsum hbase
 unfold Oper.wp execOp
 simp only [resolve, invoke, builtin, Sem.run_bind, Sem.run_pure, Result.andThen_ok, List.map_toArray, List.map_cons, List.map_nil, hs, hx, hr]
 exact h v' w' h2 h3 h4
theorem wpList_append_bytes (dst : Option Tmp) (ty : TypeId) (pos : String) (aft : Array Edge) (s x : Operand)
 (base : Nat) (v : Value) (l : Bytes) (hs : a.eval s = v) (hown : Owns w base v l) (ad : Option Addr) (m c : Nat) (l2 : Bytes) (hx : a.eval x = .slice ad m c) (hb : IsBytes w ad m c l2)
 (hsum : l.length + m ≤ 140737488355328) (hbase : base ≤ w.heap.size)
 (h : ∀ v' w', Owns w' base v' (l ++ l2) → Fr (fun k => v.ownBlock = some k) w w' → NewOr w v v' → wpList Tryz.prog ops Q rest (a.put dst v') w') :
 wpList Tryz.prog ops Q (⟨dst, .call ⟨.builtin .append, #[s, x], #[25, 25]⟩, ty, pos, aft, none⟩ :: rest) a w :=
 wpList_plain rfl fun K hK => wp_append_bytes dst ty pos aft s x base v l hs hown ad m c l2 hx hb hsum hbase fun v' w' h1 h2 h3 => hK _ _ (h v' w' h1 h2 h3)
theorem wpList_append_full (dst : Option Tmp) (ty : TypeId) (pos : String) (aft : Array Edge) (s x : Operand)
 (ao : Option Addr) (n : Nat) (l : Bytes) (hs : a.eval s = .slice ao n n) (hl : IsBytes w ao n n l) (ad : Option Addr) (m c : Nat) (l2 : Bytes) (hx : a.eval x = .slice ad m c) (hb : IsBytes w ad m c l2)
 (hm : 0 < m) (hsum : n + m ≤ 140737488355328)
 (h : ∀ v' w', Owns w' w.heap.size v' (l ++ l2) → Fr No w w' → wpList Tryz.prog ops Q rest (a.put dst v') w') :
 wpList Tryz.prog ops Q (⟨dst, .call ⟨.builtin .append, #[s, x], #[25, 25]⟩, ty, pos, aft, none⟩ :: rest) a w := by
 obtain ⟨i, hi, hz0, hz1, hz2⟩ := info_parts info_u8
 obtain ⟨b, off, rfl, hc⟩ := hb.known hm
 refine wpList_append_grows w (by rfl) s x 25 (by rfl) 5 i (.int .u8 0) 1 1 Tryz.underlying25 hi hz0 hz1 hz2 (by rfl) (by decide) ao n n (l.map cellB) hs (fun e => ⟨hl.2.2.2.1 e, hl.2.2.2.1 e⟩)
  (by rw [List.length_map, hl.1, Nat.mul_one]) ?_ ⟨b, off, none⟩ m c (l2.map cellB) hx (by rw [List.length_map, hb.1, Nat.mul_one]) ?_ ?_ (by omega) (by unfold maxLen; omega) (by omega) ?_
 · rintro ad rfl j u hj
   obtain ⟨hjl, rfl⟩ := getD_cell hj
   obtain ⟨b', off', e, hc'⟩ := hl.2.2.2.2 j (by rw [← hl.1]; exact hjl)
   cases e
   rw [Addr.add_lit]; exact hc'
 · intro j u hj
   obtain ⟨hjl, rfl⟩ := getD_cell hj
   rw [Addr.add_lit]; exact hc j (by rw [← hb.1]; exact hjl)
 · intro u hu
   obtain ⟨y, _, rfl⟩ := List.mem_map.1 hu
   rfl
 · intro v' w' hown' hg
   refine h v' w' ?_ ⟨hg.os, hg.tape, hg.output, hg.size, fun k hk hne => hg.block k hk (by simp)⟩
   unfold Owns
   rw [List.length_append, List.map_append, hl.1, hb.1]
   exact hown'
end
def str (l : Bytes) : ByteArray := ⟨(l.map UInt8.ofBitVec).toArray⟩
theorem str_toList (l : Bytes) : (str l).toList = l.map UInt8.ofBitVec := by
 rw [ByteArray.toList_eq]; simp [str]
@[go_sem ↓] theorem str_beq (l l' : Bytes) : ((str l).toList == (str l').toList) = (l == l') := by
 rw [Bool.eq_iff_iff]
 simp only [beq_iff_eq, str_toList]
 exact List.map_inj_right (fun x y e => by simpa using congrArg UInt8.toBitVec e)
@[go_sem ↓] theorem str_size (l : Bytes) : (str l).size = l.length := by simp [str, ByteArray.size]
@[go_sem] theorem str_append (l l' : Bytes) : str l ++ str l' = str (l ++ l') := by
 apply ByteArray.ext; simp [str, ByteArray.data_append]
theorem run_string_of {w : World} {a : Option Addr} {n c : Nat} {l : Bytes} (h : IsBytes w a n c l) :
 (convert 25 9 (.slice a n c)).run Tryz.prog w = .ok (.string (str l)) w := by
 cases a with
 | none =>
  have hc : c = 0 := h.2.2.2.1 rfl
  have hm : n = 0 := by have := h.2.1; omega
  subst hm
  obtain rfl : l = [] := List.eq_nil_of_length_eq_zero h.1
  exact run_convert_bytes_nil w _ _ Tryz.underlying25 Tryz.underlying5 _ _ _ Tryz.underlying9
 | some ad =>
  have hl := run_loadCells_list (P := Tryz.prog) w ad ((l.map B8).map (Value.int .u8)) (fun j v hj => by
   have hj' : (l.map cellB)[j]? = some v := by rw [← hj, List.map_map]; rfl
   obtain ⟨hjl, rfl⟩ := getD_cell hj'
   obtain ⟨b, off, e, hc⟩ := h.2.2.2.2 j (by rw [← h.1]; exact hjl)
   cases e
   rw [Addr.add_lit]; exact hc)
  rw [List.length_map, List.length_map, h.1] at hl
  rw [run_convert_bytes_string w _ _ _ (some ad) n c Tryz.underlying25 Tryz.underlying5 Tryz.underlying9, run_bytesToString w ad n c _ hl, foldl_push_bytes]
  congr 2
  apply ByteArray.ext
  simp only [str, List.map_map, ByteArray.data_empty, Array.empty_append]
  congr 1
  apply List.map_congr_left
  intro b _
  simp only [Function.comp_def, B8, Int.toNat_natCast]
  apply UInt8.toNat_inj.1
  simp
section
variable {w : World} {ops : Array Oper} {rest : List Oper} {a : Act} {Q : Exit → Act → World → Prop}
theorem wpList_string (dst : Option Tmp) (ty : TypeId) (pos : String) (aft : Array Edge) (x : Operand)
 (ad : Option Addr) (n c : Nat) (l : Bytes) (hx : a.eval x = .slice ad n c) (hb : IsBytes w ad n c l)
 (h : wpList Tryz.prog ops Q rest (a.put dst (.string (str l))) w) :
 wpList Tryz.prog ops Q (⟨dst, .convert 25 9 x, ty, pos, aft, none⟩ :: rest) a w := by
 refine wpList_plain rfl fun K hK => ?_
 unfold Oper.wp
 simp [execOp, hx, run_string_of hb, Result.andThen]
 exact hK _ _ h
end
end Go.Proofs.YtidlpihoafnobaaGreat
namespace Go.Proofs.YtidlpihoafnobaaGreat
set_option maxRecDepth 100000
open Go.RowKit
theorem own_knob : ownKnob Tryz.prog.godebug = none := by kernel_rfl
theorem laid_out : laidOutB Tryz.prog = true := by kernel_rfl
theorem bytes_u8 : Tryz.prog.bytesOf 5 = 1 := by kernel_rfl
theorem cells_u8 : Tryz.prog.cellsOf 5 = 1 := by kernel_rfl
theorem isBytes_of_ints {w : World} {x : Addr} {n c : Nat} {zs : List Int} (hl : n ≤ c) (hm : c ≤ maxLen) (hz : zs.length = c)
 (hcell : ∀ i, i < zs.length → w.cell? (x.add i) = some (.int .u8 (zs.getD i 0))) (hwz : ∀ n ∈ zs, (Lit.int .u8 n).wf = true) :
 IsBytes w (some x) n c ((zs.take n).map O8) := by
 refine ⟨by rw [List.length_map, List.length_take]; omega, hl, by unfold maxLen at hm; omega, (fun e => by cases e), fun i hi => ?_⟩
 obtain ⟨b, off, spot⟩ := x
 have hc := hcell i (by omega)
 have h0 := hcell 0 (by omega)
 have hspot : spot = none := by simpa [Addr.add] using World.cell?_spot h0
 subst hspot
 refine ⟨b, off, rfl, ?_⟩
 rw [Addr.add_lit] at hc
 rw [hc]
 have hi' : i < zs.length := by omega
 have e1 : zs.getD i 0 = zs[i] := by rw [List.getD_eq_getElem?_getD, List.getElem?_eq_getElem hi']; rfl
 have e2 : ((zs.take n).map O8).getD i 0 = O8 zs[i] := by
  rw [List.getD_eq_getElem?_getD, List.getElem?_map, List.getElem?_take, if_pos hi, List.getElem?_eq_getElem hi']; rfl
 have hw := hwz zs[i] (List.getElem_mem hi')
 have hb : 0 ≤ zs[i] ∧ zs[i] ≤ 255 := by
  have hmin : IntKind.u8.min = 0 := rfl
  have hmax : IntKind.u8.max = 255 := rfl
  simp only [Lit.wf, Bool.and_eq_true, decide_eq_true_eq] at hw
  omega
 rw [e1, e2, ← wrapu8, wrapu8_raw]
 congr 2
 omega
theorem word64 {n : Int} (h : (Lit.int .u64 n).wf = true) : n = W64 (O64 n) := by
 have hmin : IntKind.u64.min = 0 := rfl
 have hmax : IntKind.u64.max = 18446744073709551615 := rfl
 simp only [Lit.wf, Bool.and_eq_true, decide_eq_true_eq] at h
 rw [← wrapu64, wrapu64_raw]; omega
theorem int64 {n : Int} (h : (Lit.int .i64 n).wf = true) : -9223372036854775808 ≤ n ∧ n ≤ 9223372036854775807 := by
 have hmin : IntKind.i64.min = -9223372036854775808 := rfl
 have hmax : IntKind.i64.max = 9223372036854775807 := rfl
 simp only [Lit.wf, Bool.and_eq_true, decide_eq_true_eq] at h
 omega
end Go.Proofs.YtidlpihoafnobaaGreat
namespace Go.Proofs.YtidlpihoafnobaaGreat
set_option maxRecDepth 100000
open Go.RowKit
def Gives (v : Value) (w : World) (e : Ending) (w' : World) : Prop := e = .returned v ∧ w = w'
def GivesNew (v : Value) (w : World) (e : Ending) (w' : World) : Prop := e = .returned v ∧ Fr No w w'
def GivesBytes (l : Bytes) (w : World) (e : Ending) (w' : World) : Prop := ∃ v, e = .returned v ∧ Owns w' w.heap.size v l ∧ Fr No w w'
def Yes (w : World) (e : Ending) (w' : World) : Prop := e = .returned (.bool true) ∧ Fr No w w'
theorem ret_w32 {a b : BitVec 32} (h : a = b) : Ending.returned (.int .u32 (W32 a)) = .returned (.int .u32 (W32 b)) := by rw [h]
theorem ret_w64 {a b : BitVec 64} (h : a = b) : Ending.returned (.int .u64 (W64 a)) = .returned (.int .u64 (W64 b)) := by rw [h]
theorem ret_i64 {a b : Int} (h : a = b) : Ending.returned (.int .i64 a) = .returned (.int .i64 b) := by rw [h]
theorem ret_w32b {a b : BitVec 32} {p q : Bool} (h : a = b) (k : p = q) : Ending.returned (.tuple #[.int .u32 (W32 a), .bool p]) = .returned (.tuple #[.int .u32 (W32 b), .bool q]) := by rw [h, k]
theorem ret_w64b {a b : BitVec 64} {p q : Bool} (h : a = b) (k : p = q) : Ending.returned (.tuple #[.int .u64 (W64 a), .bool p]) = .returned (.tuple #[.int .u64 (W64 b), .bool q]) := by rw [h, k]
end Go.Proofs.YtidlpihoafnobaaGreat
namespace Go.Proofs.YtidlpihoafnobaaGreat
set_option maxRecDepth 100000
open Go.RowKit
theorem Owns.empty (w : World) : Owns (w.alloc (.cells #[] 5)) w.heap.size (.slice (some ⟨w.heap.size, 0, none⟩) 0 0) [] :=
 World.ownsRow_made w #[] 0 (Nat.le_refl _) (by unfold maxLen; omega) rfl
set_option maxHeartbeats 400000 in
theorem Clone_any (a : Option Addr) (n c : Nat) (l : Bytes) (w : World) (h : IsBytes w a n c l) (hn : n ≤ 140737488355328) :
 Calls Tryz.prog 173 #[.slice a n c] w (GivesBytes l w) := by
 have qT : ∀ (w : World) (a : Option Addr) (n c n' c' : Nat), (binOp .eql 25 (.slice a n c) (.slice none n' c')).run Tryz.prog w = .ok (.bool a.isNone) w := fun w a n c n' c' => Lib.run_eql_slice_nil w _ _ a n c n' c' Tryz.underlying25
 cases a with
 | none =>
  have hc : c = 0 := h.2.2.2.1 rfl
  have hm : n = 0 := by have := h.2.1; omega
  subst hm; subst hc
  obtain rfl : l = [] := List.eq_nil_of_length_eq_zero h.1
  go_enter Tryz.func173, Tryz.ntmps173
  go_wp2
  go_ret
  exact ⟨_, rfl, Owns.nil _ _, Fr.refl _ _⟩
 | some x =>
  have hal := h.no ((Fr.refl No w).alloc (.cells #[] 5))
  go_enter Tryz.func173, Tryz.ntmps173
  go_wp2_with (refine wpList_append_bytes _ _ _ _ _ _ w.heap.size _ [] rfl (Owns.empty w) _ _ _ l rfl hal (by simp; omega) (by simp) ?_; intro v1 w1 hown1 hfr1 _)
  go_ret
  exact ⟨_, rfl, hown1, ((Fr.refl No w).alloc _).append hfr1 (Owns.empty w) (Nat.le_refl _)⟩
def sizeOk (n : Int) : Int := if n < 1 then 1 else if 64 < n then 64 else n
theorem sizeOk_bd (n : Int) : 1 ≤ sizeOk n ∧ sizeOk n ≤ 64 := by unfold sizeOk; split <;> (try split) <;> omega
theorem sized_any (n : Int) (w : World) (h1 : -9223372036854775808 ≤ n) (h2 : n ≤ 9223372036854775807) :
 Calls Tryz.prog 171 #[.int .i64 n] w (Gives (.int .i64 (sizeOk n)) w) := by
 rcases (show n < 1 ∨ (1 ≤ n ∧ n ≤ 64) ∨ 64 < n by omega) with h | ⟨h, h'⟩ | h
 · rw [show sizeOk n = 1 by unfold sizeOk; rw [if_pos h]]
   go_enter Tryz.func171, Tryz.ntmps171
   go_wp2
   all_goals (go_ret; exact ⟨rfl, rfl⟩)
 · rw [show sizeOk n = n by unfold sizeOk; rw [if_neg (by omega), if_neg (by omega)]]
   rcases (show n = 1 ∨ n = 64 ∨ (1 < n ∧ n < 64) by omega) with rfl | rfl | ⟨g1, g2⟩
   all_goals
    go_enter Tryz.func171, Tryz.ntmps171
    go_wp2
    all_goals (go_ret; exact ⟨rfl, rfl⟩)
 · rw [show sizeOk n = 64 by unfold sizeOk; rw [if_neg (by omega), if_pos h]]
   go_enter Tryz.func171, Tryz.ntmps171
   go_wp2
   all_goals (go_ret; exact ⟨rfl, rfl⟩)
end Go.Proofs.YtidlpihoafnobaaGreat
namespace Go.Proofs.YtidlpihoafnobaaGreat
set_option maxRecDepth 100000
open Go.RowKit
theorem Fmix32_any (h : BitVec 32) (w : World) :
 Calls Tryz.prog 167 #[.int .u32 (W32 h)] w (Gives (.int .u32 (W32 (fmix32 h))) w) := by
 go_enter Tryz.func167, Tryz.ntmps167
 go_wp2
 go_ret
 exact ⟨rfl, rfl⟩
set_option maxHeartbeats 400000 in
theorem refFold7_any (z : BitVec 64) (n : Int) (k : Nat) (w : World) (hn : n = k) (h1 : 1 ≤ k) (h2 : k ≤ 63) :
 Calls Tryz.prog 164 #[.int .u64 (W64 z), .int .i64 n] w (Gives (.int .u64 (W64 (z ^^^ z >>> k))) w) := by
 subst hn
 have i1 : (1 : Int) ≤ (k : Int) := by omega
 have i2 : (k : Int) ≤ 63 := by omega
 go_enter Tryz.func164, Tryz.ntmps164
 go_wp2
 go_loop [5, 6] (fun y i => ∃ j : Nat, j ≤ 64 ∧ i = .int .i64 j ∧ y = .int .u64 (W64 (lowb (z ^^^ z >>> k) j))) (fun _ i => 64 - (intOf i).toNat)
 case atStart => exact ⟨0, by omega, rfl, by rw [lowb_zero]; rfl⟩
 case round =>
  obtain ⟨j, hj, rfl, rfl⟩ := hrel
  by_cases hlt : j < 64
  · have i3 : (j : Int) < 64 := by omega
    by_cases hs : j + k < 64
    · have HS := Lib.hid (fold_step2 z k j hs)
      have i4 : (j : Int) + (k : Int) < 64 := by omega
      generalize lowb (z ^^^ z >>> k) j = y at HS ⊢
      go_wp2
      exact ⟨⟨j + 1, by omega, rfl, by rw [← HS.out]⟩, by simp [intOf]; omega⟩
    · have HS := Lib.hid (fold_step1 z k j hlt (by omega))
      have i4 : ¬ (j : Int) + (k : Int) < 64 := by omega
      generalize lowb (z ^^^ z >>> k) j = y at HS ⊢
      go_wp2
      exact ⟨⟨j + 1, by omega, rfl, by rw [← HS.out]⟩, by simp [intOf]; omega⟩
  · obtain rfl : j = 64 := by omega
    rw [lowb_all]
    go_wp2
    go_ret
    exact ⟨rfl, rfl⟩
theorem refFmix32_any (h : BitVec 32) (w : World) :
 Calls Tryz.prog 90 #[.int .u32 (W32 h)] w (Gives (.int .u32 (W32 (fmix32 h))) w) := by
 go_enter Tryz.func90, Tryz.ntmps90
 go_wp2_with fail
 refine (refFold7_any _ 16 16 _ rfl (by omega) (by omega)).mono ?_
 rintro e w' ⟨rfl, rfl⟩
 have h1 := narrow_fold h 16 65536#32 rfl
 go_wp2_with fail
 clear h1
 refine (refFold7_any _ 13 13 _ rfl (by omega) (by omega)).mono ?_
 rintro e w' ⟨rfl, rfl⟩
 have h2 := narrow_fold ((h ^^^ h / 65536#32) * 2246822507#32) 13 8192#32 rfl
 go_wp2_with fail
 clear h2
 refine (refFold7_any _ 16 16 _ rfl (by omega) (by omega)).mono ?_
 rintro e w' ⟨rfl, rfl⟩
 have h3 := narrow_fold (((h ^^^ h / 65536#32) * 2246822507#32 ^^^ (h ^^^ h / 65536#32) * 2246822507#32 / 8192#32) * 3266489909#32) 16 65536#32 rfl
 go_wp2_with fail
 clear h3
 go_ret
 exact ⟨rfl, rfl⟩
end Go.Proofs.YtidlpihoafnobaaGreat
namespace Go.Proofs.YtidlpihoafnobaaGreat
set_option maxRecDepth 100000
open Go.RowKit
set_option maxHeartbeats 400000 in
theorem Rot32_any (x : BitVec 32) (n : Int) (w : World) :
 Calls Tryz.prog 176 #[.int .u32 (W32 x), .int .i64 n] w (Gives (.int .u32 (W32 (rotl32 x n))) w) := by
 go_enter Tryz.func176, Tryz.ntmps176
 go_wp2
 go_ret
 exact ⟨ret_w32 (rot32_prog x n), rfl⟩
set_option maxHeartbeats 400000 in
theorem Rot64_any (x : BitVec 64) (n : Int) (w : World) :
 Calls Tryz.prog 195 #[.int .u64 (W64 x), .int .i64 n] w (Gives (.int .u64 (W64 (rotl64 x n))) w) := by
 go_enter Tryz.func195, Tryz.ntmps195
 go_wp2
 go_ret
 exact ⟨ret_w64 (rot64_prog x n), rfl⟩
set_option maxHeartbeats 400000 in
theorem refLeft_any (n m : Int) (w : World) (h1 : -9223372036854775808 ≤ n) (h2 : n ≤ 9223372036854775807) (h3 : 1 ≤ m) (h4 : m ≤ 64) :
 Calls Tryz.prog 166 #[.int .i64 n, .int .i64 m] w (Gives (.int .i64 (n % m)) w) := by
 have hm : -m < n.tmod m ∧ n.tmod m < m := ⟨Int.lt_tmod_of_pos n (by omega), Int.tmod_lt_of_pos n (by omega)⟩
 have he : n % m = if n.tmod m < 0 then n.tmod m + m else n.tmod m := by
  have h5 := Int.emod_nonneg n (show m ≠ 0 by omega)
  have h6 := Int.emod_lt_of_pos n (show 0 < m by omega)
  have h7 : (m.natAbs : Int) = m := Int.natAbs_of_nonneg (by omega)
  rw [Int.tmod_eq_emod]
  by_cases hn : 0 ≤ n ∨ m ∣ n
  · rw [if_pos hn]; simp only [Int.ofNat_zero, Int.sub_zero]; rw [if_neg (by omega)]
  · rw [if_neg hn, h7, if_pos (by omega)]; omega
 go_enter Tryz.func166, Tryz.ntmps166
 go_wp2
 · go_ret
   exact ⟨ret_i64 (by rw [he, if_pos (by assumption)]), rfl⟩
 · go_ret
   exact ⟨ret_i64 (by rw [he, if_neg (by omega)]), rfl⟩
set_option maxHeartbeats 400000 in
theorem refRot32_any (x : BitVec 32) (n : Int) (w : World) (h1 : -9223372036854775808 ≤ n) (h2 : n ≤ 9223372036854775807) :
 Calls Tryz.prog 95 #[.int .u32 (W32 x), .int .i64 n] w (Gives (.int .u32 (W32 (rotl32 x n))) w) := by
 have h5 := Int.emod_nonneg n (show (32 : Int) ≠ 0 by omega)
 have h6 := Int.emod_lt_of_pos n (show (0 : Int) < 32 by omega)
 go_enter Tryz.func95, Tryz.ntmps95
 go_wp2
 go_loop [0, 5] (fun y i => ∃ k : Nat, (k : Int) ≤ n % 32 ∧ i = .int .i64 k ∧ y = .int .u32 (W32 (x.rotateLeft k))) (fun _ i => 64 - (intOf i).toNat)
 case atStart => exact ⟨0, by simpa using h5, rfl, by rw [rotl32_zero]⟩
 case round =>
  obtain ⟨k, hk, rfl, rfl⟩ := hrel
  by_cases hlt : (k : Int) < n % 32
  · go_wp2_with (go_at_call 166; refine (refLeft_any _ _ _ h1 h2 (by omega) (by omega)).mono ?_; rintro e w' ⟨rfl, rfl⟩)
    go_round
    case rel => exact ⟨k + 1, by omega, by go_num, by rw [step32 x k (by omega)]⟩
    case measure => simp [intOf]; omega
  · go_wp2_with (go_at_call 166; refine (refLeft_any _ _ _ h1 h2 (by omega) (by omega)).mono ?_; rintro e w' ⟨rfl, rfl⟩)
    go_ret
    exact ⟨ret_w32 (by unfold rotl32; rw [show (n % 32).toNat = k by omega]), rfl⟩
set_option maxHeartbeats 400000 in
theorem refRot64_any (x : BitVec 64) (n : Int) (w : World) (h1 : -9223372036854775808 ≤ n) (h2 : n ≤ 9223372036854775807) :
 Calls Tryz.prog 96 #[.int .u64 (W64 x), .int .i64 n] w (Gives (.int .u64 (W64 (rotl64 x n))) w) := by
 have h5 := Int.emod_nonneg n (show (64 : Int) ≠ 0 by omega)
 have h6 := Int.emod_lt_of_pos n (show (0 : Int) < 64 by omega)
 go_enter Tryz.func96, Tryz.ntmps96
 go_wp2
 go_loop [0, 5] (fun y i => ∃ k : Nat, (k : Int) ≤ n % 64 ∧ i = .int .i64 k ∧ y = .int .u64 (W64 (x.rotateLeft k))) (fun _ i => 128 - (intOf i).toNat)
 case atStart => exact ⟨0, by simpa using h5, rfl, by rw [rotl64_zero]⟩
 case round =>
  obtain ⟨k, hk, rfl, rfl⟩ := hrel
  by_cases hlt : (k : Int) < n % 64
  · go_wp2_with (go_at_call 166; refine (refLeft_any _ _ _ h1 h2 (by omega) (by omega)).mono ?_; rintro e w' ⟨rfl, rfl⟩)
    go_round
    case rel => exact ⟨k + 1, by omega, by go_num, by rw [step64 x k (by omega)]⟩
    case measure => simp [intOf]; omega
  · go_wp2_with (go_at_call 166; refine (refLeft_any _ _ _ h1 h2 (by omega) (by omega)).mono ?_; rintro e w' ⟨rfl, rfl⟩)
    go_ret
    exact ⟨ret_w64 (by unfold rotl64; rw [show (n % 64).toNat = k by omega]), rfl⟩
end Go.Proofs.YtidlpihoafnobaaGreat
namespace Go.Proofs.YtidlpihoafnobaaGreat
set_option maxRecDepth 100000
open Go.RowKit
def leb (x : BitVec 64) (k : Nat) : Bytes := (List.range k).map fun i => (x >>> (8 * i)).setWidth 8
theorem leb_succ (x : BitVec 64) (k : Nat) : leb x (k + 1) = leb x k ++ [(x >>> (8 * k)).setWidth 8] := by simp [leb, List.range_succ]
theorem leb_one (x : BitVec 64) : leb x 1 = [BitVec.setWidth 8 x] := by simp [leb]
theorem leb_length (x : BitVec 64) (k : Nat) : (leb x k).length = k := by simp [leb]
theorem shr8 (x : BitVec 64) (k : Nat) : (x >>> (8 * k)) / 256#64 = x >>> (8 * (k + 1)) := by
 apply BitVec.eq_of_toNat_eq
 rw [BitVec.toNat_udiv, BitVec.toNat_ushiftRight, BitVec.toNat_ushiftRight, Nat.shiftRight_eq_div_pow, Nat.shiftRight_eq_div_pow, Nat.mul_add, Nat.pow_add, Nat.div_div_eq_div_mul]; rfl
theorem mod8 (x : BitVec 64) : BitVec.setWidth 8 (x % 256#64) = BitVec.setWidth 8 x := by
 apply BitVec.eq_of_toNat_eq
 rw [BitVec.toNat_setWidth, BitVec.toNat_setWidth, BitVec.toNat_umod]
 exact Nat.mod_mod _ _
def PutAt (a : Option Addr) (n : Nat) (l : Bytes) (x : BitVec 64) (w : World) (k : Nat) (v : Value) (wr : World) : Prop :=
 (k = 0 ∧ v = .slice (subAddr a 0 n 1) n n ∧ wr = w) ∨ (0 < k ∧ Owns wr w.heap.size v (l ++ leb x k) ∧ Fr No w wr)
set_option maxHeartbeats 1000000 in
theorem put_any (a : Option Addr) (n c : Nat) (l : Bytes) (x : BitVec 64) (m : Nat) (w : World) (h : IsBytes w a n c l) (hm0 : 0 < m) (hm : m ≤ 8) (hr : n + 8 ≤ 140737488355328) :
 Calls Tryz.prog 100 #[.slice a n c, .int .u64 (W64 x), .int .i64 m] w (GivesBytes (l ++ leb x m) w) := by
 have hn : n ≤ c := h.2.1
 have hc : c ≤ 9223372036854775807 := h.2.2.1
 have hcut := Lib.hid (h.head n n (n' := n) (c' := n) (Nat.le_refl _) (Nat.le_refl _) hn rfl rfl)
 have hlen := Lib.hid h.1
 clear h
 go_enter Tryz.func100, Tryz.ntmps100
 go_wp2
 go_loopw [0, 1, 14] (fun v y i wr => ∃ k : Nat, k ≤ m ∧ i = .int .i64 k ∧ y = .int .u64 (W64 (x >>> (8 * k))) ∧ PutAt a n l x w k v wr) (fun _ _ i _ => m - (intOf i).toNat)
 case atStart => exact ⟨0, by omega, rfl, by simp, .inl ⟨rfl, by first | rfl | simp, rfl⟩⟩
 case round =>
  obtain ⟨k, hk, rfl, rfl, hput⟩ := hrel
  by_cases hlt : k < m
  · rcases hput with ⟨rfl, rfl, rfl⟩ | ⟨hk0, hown, hfr⟩
    · have hb0 := hcut.out
      rw [List.take_of_length_le (by rw [hlen.out]; omega)] at hb0
      have hb1 := hb0.no ((Fr.refl No wr).alloc (.cells #[.int .u8 (B8 (BitVec.setWidth 8 x))] 5))
      clear hcut
      go_wp2_with (refine wpList_append_full _ _ _ _ _ _ _ n l rfl hb1 _ 1 1 [BitVec.setWidth 8 x] rfl (by first | exact IsBytes.one _ _ _ | (simp; exact IsBytes.one _ _ _)) (by omega) (by omega) ?_; intro v' w1 hown' hfr')
      go_roundw
      case rel => exact ⟨1, by omega, by go_num, by rw [← shr8]; rfl, .inr ⟨by omega, by rw [leb_one]; exact hown'.mono (by simp), ((Fr.refl No wr).alloc _).no hfr'⟩⟩
      case measure => simp [intOf]; omega
    · have hfl : l.length = n := hlen.out
      go_wp2_with (refine wpList_append_bytes _ _ _ _ _ _ w.heap.size _ (l ++ leb x k) rfl (hown.alloc _) _ _ _ [BitVec.setWidth 8 (x >>> (8 * k))] rfl (IsBytes.one _ _ _) (by rw [List.length_append, leb_length]; omega) (by have := hfr.size; simp; omega) ?_; intro v' w1 hown' hfr' _)
      go_roundw
      case rel => exact ⟨k + 1, by omega, by go_num, by rw [← shr8], .inr ⟨by omega, by rw [leb_succ, ← List.append_assoc]; exact hown', (hfr.alloc _).append hfr' (hown.alloc _) (Nat.le_refl _)⟩⟩
      case measure => simp [intOf]; omega
  · obtain rfl : k = m := by omega
    rcases hput with ⟨rfl, _⟩ | ⟨hk0, hown, hfr⟩
    · omega
    · go_wp2
      go_ret
      exact ⟨_, rfl, hown, hfr⟩
theorem Put64_any (a : Option Addr) (n c : Nat) (l : Bytes) (x : BitVec 64) (w : World) (h : IsBytes w a n c l) (hr : n + 8 ≤ 140737488355328) :
 Calls Tryz.prog 55 #[.slice a n c, .int .u64 (W64 x)] w (GivesBytes (l ++ leb x 8) w) := by
 go_enter Tryz.func55, Tryz.ntmps55
 go_wp2_with (go_at_call 100; refine (put_any a n c l x 8 w h (by omega) (by omega) hr).mono ?_; rintro e w' ⟨v, rfl, hown, hfr⟩)
 go_ret
 exact ⟨v, rfl, hown, hfr⟩
theorem Put32_any (a : Option Addr) (n c : Nat) (l : Bytes) (x : BitVec 32) (w : World) (h : IsBytes w a n c l) (hr : n + 8 ≤ 140737488355328) :
 Calls Tryz.prog 101 #[.slice a n c, .int .u32 (W32 x)] w (GivesBytes (l ++ leb (x.setWidth 64) 4) w) := by
 go_enter Tryz.func101, Tryz.ntmps101
 go_wp2_with (go_at_call 100; refine (put_any a n c l (x.setWidth 64) 4 w h (by omega) (by omega) hr).mono ?_; rintro e w' ⟨v, rfl, hown, hfr⟩)
 go_ret
 exact ⟨v, rfl, hown, hfr⟩
set_option maxHeartbeats 400000 in
theorem refBytes_any (x : BitVec 64) (m : Nat) (w : World) (hm : m ≤ 8) :
 Calls Tryz.prog 54 #[.int .u64 (W64 x), .int .i64 m] w (GivesBytes (leb x m) w) := by
 go_enter Tryz.func54, Tryz.ntmps54
 go_wp2
 go_loopw [0, 5, 6] (fun y v i wr => ∃ k : Nat, k ≤ m ∧ i = .int .i64 k ∧ y = .int .u64 (W64 (x >>> (8 * k))) ∧ Owns wr w.heap.size v (leb x k) ∧ Fr No w wr) (fun _ _ i _ => m - (intOf i).toNat)
 case atStart => exact ⟨0, by omega, rfl, by simp, Owns.nil _ _, Fr.refl _ _⟩
 case round =>
  obtain ⟨k, hk, rfl, rfl, hown, hfr⟩ := hrel
  by_cases hlt : k < m
  · go_wp2_with (refine wpList_append_bytes _ _ _ _ _ _ w.heap.size _ (leb x k) rfl (hown.alloc _) _ _ _ [BitVec.setWidth 8 (x >>> (8 * k) % 256#64)] rfl (IsBytes.one _ _ _) (by rw [leb_length]; omega) (by have := hfr.size; simp; omega) ?_; intro v' w1 hown' hfr' _)
    go_roundw
    case rel => exact ⟨k + 1, by omega, by go_num, by rw [← shr8], by rw [leb_succ, ← mod8]; exact hown', (hfr.alloc _).append hfr' (hown.alloc _) (Nat.le_refl _)⟩
    case measure => simp [intOf]; omega
  · obtain rfl : k = m := by omega
    go_wp2
    go_ret
    exact ⟨_, rfl, hown, hfr⟩
set_option maxHeartbeats 400000 in
theorem refBoth_any (a : Option Addr) (n c : Nat) (l : Bytes) (a2 : Option Addr) (n2 c2 : Nat) (l2 : Bytes) (w : World) (h : IsBytes w a n c l) (h2 : IsBytes w a2 n2 c2 l2) (hr : n + n2 ≤ 140737488355328) :
 Calls Tryz.prog 31 #[.slice a n c, .slice a2 n2 c2] w (GivesBytes (l ++ l2) w) := by
 have hl := Lib.hid h.1
 go_enter Tryz.func31, Tryz.ntmps31
 go_wp2_with (first | (refine wpList_append_bytes _ _ _ _ (.tmp 6) (.tmp 7) w.heap.size _ [] rfl (Owns.nil _ _) _ _ _ l rfl h (by simp; omega) (Nat.le_refl _) ?_; intro v1 w1 hown1 hfr1 _; have hf1 : Fr No w w1 := (Fr.refl No w).append hfr1 (Owns.nil w w.heap.size) (Nat.le_refl _)) | (refine wpList_append_bytes _ _ _ _ (.tmp 9) (.tmp 10) w.heap.size _ ([] ++ l) rfl hown1 _ _ _ l2 rfl (h2.no hf1) (by rw [List.nil_append, hl.out]; omega) hf1.size ?_; intro v2 w2 hown2 hfr2 _))
 go_ret
 exact ⟨_, rfl, hown2, hf1.append hfr2 hown1 (Nat.le_refl _)⟩
theorem refSame_any (a : Option Addr) (n c : Nat) (l : Bytes) (a2 : Option Addr) (n2 c2 : Nat) (l2 : Bytes) (w : World) (h : IsBytes w a n c l) (h2 : IsBytes w a2 n2 c2 l2) :
 Calls Tryz.prog 19 #[.slice a n c, .slice a2 n2 c2] w (Gives (.bool (l == l2)) w) := by
 go_enter Tryz.func19, Tryz.ntmps19
 go_wp2_with (first | refine wpList_string _ _ _ _ (.tmp 5) _ _ _ l rfl h ?_ | refine wpList_string _ _ _ _ (.tmp 7) _ _ _ l2 rfl h2 ?_)
 go_ret
 exact ⟨rfl, rfl⟩
end Go.Proofs.YtidlpihoafnobaaGreat
