/- Mem RowKit RotPlain MixPlain Gives Pieces Clone Mix -/
import Derived.ArgAppend
import Derived.Below
import Derived.ChangeOld
import Derived.Laws.AppendOwnNone
import Derived.Maps.AppendAt
import Derived.OpenShut
import Derived.ProofKit
import Derived.ShutString
import Derived.SizedLaws
import Derived.Test.YtidlpihoafnobaaGreatDoorProg
import Derived.Test.YtidlpihoafnobaaGreatDoorRows
import Derived.WalkKit
import Derived.Test.YtidlpihoafnobaaGreatDoorPRow4
set_option linter.unusedVariables false
set_option linter.unusedSimpArgs false
namespace Go.Proofs.YtidlpihoafnobaaGreatDoor
set_option maxRecDepth 100000
open Go.RowKit
def cellB (b : BitVec 8) : Value := .int .u8 (B8 b)
def Owns (w : World) (base : Nat) (v : Value) (l : Bytes) : Prop := w.ownsRow base 5 1 v l.length (l.map cellB)
theorem Owns.nil (w : World) (base : Nat) : Owns w base (.slice none 0 0) [] := World.ownsRow_nil w base _ 1
theorem info_u8 : (Tryz.prog.info? 5).map (fun i => (i.zero, i.size, i.bytes)) = some (some (.int .u8 0), 1, 1) := by kernel_rfl
theorem getD_cell {l : Bytes} {j : Nat} {u : Value} (h : (l.map cellB)[j]? = some u) : j < l.length ∧ u = .int .u8 (B8 (l.getD j 0)) := by
 rw [List.getElem?_map] at h
 cases hl : l[j]? with
 | none => rw [hl] at h; cases h
 | some x =>
  rw [hl] at h
  simp only [Option.map_some, Option.some.injEq] at h
  refine ⟨(List.getElem?_eq_some_iff.1 hl).1, ?_⟩
  rw [← h, List.getD_eq_getElem?_getD, hl]; rfl
theorem Owns.bytes {w : World} {base : Nat} {v : Value} {l : Bytes} (h : Owns w base v l) :
 ∃ a c, v = .slice a l.length c ∧ IsBytes w a l.length c l ∧ (∀ x, a = some x → base ≤ x.block ∧ x.block < w.heap.size) := by
 rcases h.2 with ⟨rfl, hn⟩ | ⟨g, cap, cur, rfl, hb, hg, hnc, hcm, hcs, ht⟩
 · obtain rfl : l = [] := List.eq_nil_of_length_eq_zero hn
   exact ⟨none, 0, rfl, IsBytes.nil w, fun x hx => by cases hx⟩
 · have hlt : g < w.heap.size := (Array.getElem?_eq_some_iff.1 hg).1
   refine ⟨_, _, rfl, ⟨rfl, hnc, by unfold maxLen at hcm; omega, (fun e => by cases e), fun i hi => ⟨g, 0, rfl, ?_⟩⟩, (fun x hx => by cases hx; exact ⟨hb, hlt⟩)⟩
   rw [cell_of_row w g (0 + i) cur _ _ hg, Nat.zero_add]
   have h1 : cur.toList[i]? = (l.map cellB)[i]? := by
    rw [← ht, Nat.mul_one, List.getElem?_take, if_pos hi]
   rw [← Array.getElem?_toList, h1, List.getElem?_map, List.getD_eq_getElem?_getD, List.getElem?_eq_getElem hi]; rfl
theorem Owns.isBytes {w : World} {base : Nat} {a : Option Addr} {n c : Nat} {l : Bytes} (h : Owns w base (.slice a n c) l) : IsBytes w a n c l := by
 obtain ⟨a', c', e, hb, _⟩ := h.bytes
 cases e
 exact hb
theorem Owns.clear {w : World} {base : Nat} {a : Option Addr} {n c : Nat} {l : Bytes} (h : Owns w base (.slice a n c) l) : Owns w base (.slice (subAddr a 0 c 1) 0 c) [] := by
 rw [subAddr_zero]
 rcases h.2 with ⟨e, hn⟩ | ⟨g, cap, cur, e, hb, hg, hnc, hcm, hcs, ht⟩
 · cases e; exact Owns.nil w base
 · cases e
   exact ⟨rfl, .inr ⟨g, c, cur, rfl, hb, hg, Nat.zero_le _, hcm, hcs, by simp⟩⟩
theorem Owns.alloc {w : World} {base : Nat} {v : Value} {l : Bytes} (h : Owns w base v l) (o : Obj) : Owns (w.alloc o) base v l := World.ownsRow.alloc h o
theorem Owns.mono {w : World} {base base' : Nat} {v : Value} {l : Bytes} (h : Owns w base v l) (hb : base' ≤ base) : Owns w base' v l := by
 refine ⟨h.1, ?_⟩
 rcases h.2 with hn | ⟨g, cap, cur, e, hg, r⟩
 · exact .inl hn
 · exact .inr ⟨g, cap, cur, e, Nat.le_trans hb hg, r⟩
theorem Owns.lt {w : World} {base : Nat} {v : Value} {l : Bytes} (h : Owns w base v l) : ∀ k, v.ownBlock = some k → base ≤ k ∧ k < w.heap.size := World.ownsRow.lt h
theorem Owns.fr {F : Nat → Prop} {w w' : World} {base : Nat} {v : Value} {l : Bytes} (h : Owns w base v l) (k : Fr F w w') (hF : ∀ x, v.ownBlock = some x → ¬ F x) : Owns w' base v l := by
 refine ⟨h.1, ?_⟩
 rcases h.2 with hn | ⟨g, cap, cur, rfl, hb, hg, r⟩
 · exact .inl hn
 · exact .inr ⟨g, cap, cur, rfl, hb, k.heap (hF g rfl) hg, r⟩
theorem Owns.no {w w' : World} {base : Nat} {v : Value} {l : Bytes} (h : Owns w base v l) (k : Fr No w w') : Owns w' base v l := h.fr k fun _ _ f => f
theorem Fr.append {F : Nat → Prop} {w0 w w' : World} {base : Nat} {v : Value} {l : Bytes} (h : Fr F w0 w) (k : Fr (fun x => v.ownBlock = some x) w w') (ho : Owns w base v l) (hb : w0.heap.size ≤ base) : Fr F w0 w' :=
 h.trans k fun x e => .inr (Nat.le_trans hb (ho.lt x e).1)
theorem IsBytes.one (w : World) (x : BitVec 8) (fr : Nat × Nat) : IsBytes (w.alloc (.cells #[.int .u8 (B8 x)] 5 fr)) (some ⟨w.heap.size, 0, none⟩) 1 1 [x] :=
 ⟨rfl, Nat.le_refl _, by omega, (fun e => by cases e), fun i hi => ⟨w.heap.size, 0, rfl, by
  obtain rfl : i = 0 := by omega
  rw [cell_of_row _ w.heap.size (0 + 0) _ _ _ (heap_alloc_new w _)]; rfl⟩⟩
def NewOr (w : World) (v v' : Value) : Prop := v'.ownBlock = v.ownBlock ∨ v'.ownBlock = some w.heap.size
theorem run_append_bytes {w : World} (ty : TypeId) {base : Nat} {v : Value} {l : Bytes} (hown : Owns w base v l) {ad : Option Addr} {m c : Nat} {l2 : Bytes} (hb : IsBytes w ad m c l2)
 (hsum : l.length + m ≤ 140737488355328) (hbase : base ≤ w.heap.size) :
 ∃ v' w', (Builtin.append_ #[22, 22] ty #[v, .slice ad m c]).run Tryz.prog w = .ok v' w' ∧ Owns w' base v' (l ++ l2) ∧ Fr (fun k => v.ownBlock = some k) w w' ∧ NewOr w v v' := by
 obtain ⟨i, hi, hz0, hz1, hz2⟩ := info_parts info_u8
 cases ad with
 | none =>
  have hc : c = 0 := hb.2.2.2.1 rfl
  have hm : m = 0 := by have := hb.2.1; omega
  subst hc; subst hm
  obtain rfl : l2 = [] := List.eq_nil_of_length_eq_zero hb.1
  have hrun := run_append_owned_none (P := Tryz.prog) (w := w) base 22 ty 5 i 1 Tryz.underlying22 hi v l.length (l.map cellB) hown
  exact ⟨v, w, hrun, by rw [List.append_nil]; exact hown, Fr.refl _ _, .inl rfl⟩
 | some ad =>
  obtain ⟨v', w', hrun, hown', hg, _, hat⟩ := run_append_own_at (P := Tryz.prog) w base 22 ty 5 i (.int .u8 0) 1 1 Tryz.underlying22 hi hz0 hz1 hz2 (by rfl) (by decide) v l.length (l.map cellB) hown ad m c (l2.map cellB)
   (by rw [List.length_map, hb.1, Nat.mul_one]) (fun j u hj => by
    obtain ⟨hl, rfl⟩ := getD_cell hj
    obtain ⟨b, off, e, hc⟩ := hb.2.2.2.2 j (by rw [← hb.1]; exact hl)
    cases e
    rw [Addr.add_lit]; exact hc) (fun u hu => by
    obtain ⟨y, _, rfl⟩ := List.mem_map.1 hu
    rfl) (by unfold maxLen; omega) (by omega) hbase
  refine ⟨v', w', hrun, ?_, ⟨hg.os, hg.tape, hg.output, hg.size, fun k hk hne => hg.block k hk fun e => hne e.symm⟩, hat⟩
  unfold Owns
  rw [List.length_append, List.map_append, hb.1]
  exact hown'
section
variable {w : World} {ops : Array Oper} {rest : List Oper} {a : Act} {Q : Exit → Act → World → Prop}
theorem wp_append_bytes {K : Act → World → Prop} (dst : Option Tmp) (ty : TypeId) (pos : String) (aft : Array Edge) (s x : Operand)
 (base : Nat) (v : Value) (l : Bytes) (hs : a.eval s = v) (hown : Owns w base v l) (ad : Option Addr) (m c : Nat) (l2 : Bytes) (hx : a.eval x = .slice ad m c) (hb : IsBytes w ad m c l2)
 (hsum : l.length + m ≤ 140737488355328) (hbase : base ≤ w.heap.size)
 (h : ∀ v' w', Owns w' base v' (l ++ l2) → Fr (fun k => v.ownBlock = some k) w w' → NewOr w v v' → K (a.put dst v') w') :
 Oper.wp Tryz.prog ⟨dst, .call ⟨.builtin .append, #[s, x], #[22, 22]⟩, ty, pos, aft, none⟩ a w K Q := by
 obtain ⟨v', w', hr, h2, h3, h4⟩ := run_append_bytes ty hown hb hsum hbase
 unfold Oper.wp execOp
 simp only [resolve, invoke, builtin, Sem.run_bind, Sem.run_pure, Result.andThen_ok, List.map_toArray, List.map_cons, List.map_nil, hs, hx, hr]
 exact h v' w' h2 h3 h4
theorem wpList_append_bytes (dst : Option Tmp) (ty : TypeId) (pos : String) (aft : Array Edge) (s x : Operand)
 (base : Nat) (v : Value) (l : Bytes) (hs : a.eval s = v) (hown : Owns w base v l) (ad : Option Addr) (m c : Nat) (l2 : Bytes) (hx : a.eval x = .slice ad m c) (hb : IsBytes w ad m c l2)
 (hsum : l.length + m ≤ 140737488355328) (hbase : base ≤ w.heap.size)
 (h : ∀ v' w', Owns w' base v' (l ++ l2) → Fr (fun k => v.ownBlock = some k) w w' → NewOr w v v' → wpList Tryz.prog ops Q rest (a.put dst v') w') :
 wpList Tryz.prog ops Q (⟨dst, .call ⟨.builtin .append, #[s, x], #[22, 22]⟩, ty, pos, aft, none⟩ :: rest) a w :=
 wpList_plain rfl fun K hK => wp_append_bytes dst ty pos aft s x base v l hs hown ad m c l2 hx hb hsum hbase fun v' w' h1 h2 h3 => hK _ _ (h v' w' h1 h2 h3)
theorem wpList_append_full (dst : Option Tmp) (ty : TypeId) (pos : String) (aft : Array Edge) (s x : Operand)
 (ao : Option Addr) (n : Nat) (l : Bytes) (hs : a.eval s = .slice ao n n) (hl : IsBytes w ao n n l) (ad : Option Addr) (m c : Nat) (l2 : Bytes) (hx : a.eval x = .slice ad m c) (hb : IsBytes w ad m c l2)
 (hm : 0 < m) (hsum : n + m ≤ 140737488355328)
 (h : ∀ v' w', Owns w' w.heap.size v' (l ++ l2) → Fr No w w' → wpList Tryz.prog ops Q rest (a.put dst v') w') :
 wpList Tryz.prog ops Q (⟨dst, .call ⟨.builtin .append, #[s, x], #[22, 22]⟩, ty, pos, aft, none⟩ :: rest) a w := by
 obtain ⟨i, hi, hz0, hz1, hz2⟩ := info_parts info_u8
 obtain ⟨b, off, rfl, hc⟩ := hb.known hm
 refine wpList_append_grows w (by rfl) s x 22 (by rfl) 5 i (.int .u8 0) 1 1 Tryz.underlying22 hi hz0 hz1 hz2 (by rfl) (by decide) ao n n (l.map cellB) hs (fun e => ⟨hl.2.2.2.1 e, hl.2.2.2.1 e⟩)
  (by rw [List.length_map, hl.1, Nat.mul_one]) ?_ ⟨b, off, none⟩ m c (l2.map cellB) hx (by rw [List.length_map, hb.1, Nat.mul_one]) ?_ ?_ (by omega) (by unfold maxLen; omega) (by omega) ?_
 · rintro ad rfl j u hj
   obtain ⟨hjl, rfl⟩ := getD_cell hj
   obtain ⟨b', off', e, hc'⟩ := hl.2.2.2.2 j (by rw [← hl.1]; exact hjl)
   cases e
   rw [Addr.add_lit]; exact hc'
 · intro j u hj
   obtain ⟨hjl, rfl⟩ := getD_cell hj
   rw [Addr.add_lit]; exact hc j (by rw [← hb.1]; exact hjl)
 · intro u hu
   obtain ⟨y, _, rfl⟩ := List.mem_map.1 hu
   rfl
 · intro v' w' hown' hg
   refine h v' w' ?_ ⟨hg.os, hg.tape, hg.output, hg.size, fun k hk hne => hg.block k hk (by simp)⟩
   unfold Owns
   rw [List.length_append, List.map_append, hl.1, hb.1]
   exact hown'
end
def str (l : Bytes) : ByteArray := ⟨(l.map UInt8.ofBitVec).toArray⟩
theorem str_toList (l : Bytes) : (str l).toList = l.map UInt8.ofBitVec := by
 rw [ByteArray.toList_eq]; simp [str]
@[go_sem ↓] theorem str_beq (l l' : Bytes) : ((str l).toList == (str l').toList) = (l == l') := by
 rw [Bool.eq_iff_iff]
 simp only [beq_iff_eq, str_toList]
 exact List.map_inj_right (fun x y e => by simpa using congrArg UInt8.toBitVec e)
@[go_sem ↓] theorem str_size (l : Bytes) : (str l).size = l.length := by simp [str, ByteArray.size]
@[go_sem] theorem str_append (l l' : Bytes) : str l ++ str l' = str (l ++ l') := by
 apply ByteArray.ext; simp [str, ByteArray.data_append]
theorem run_string_of {w : World} {a : Option Addr} {n c : Nat} {l : Bytes} (h : IsBytes w a n c l) :
 (convert 22 9 (.slice a n c)).run Tryz.prog w = .ok (.string (str l)) w := by
 cases a with
 | none =>
  have hc : c = 0 := h.2.2.2.1 rfl
  have hm : n = 0 := by have := h.2.1; omega
  subst hm
  obtain rfl : l = [] := List.eq_nil_of_length_eq_zero h.1
  exact run_convert_bytes_nil w _ _ Tryz.underlying22 Tryz.underlying5 _ _ _ Tryz.underlying9
 | some ad =>
  have hl := run_loadCells_list (P := Tryz.prog) w ad ((l.map B8).map (Value.int .u8)) (fun j v hj => by
   have hj' : (l.map cellB)[j]? = some v := by rw [← hj, List.map_map]; rfl
   obtain ⟨hjl, rfl⟩ := getD_cell hj'
   obtain ⟨b, off, e, hc⟩ := h.2.2.2.2 j (by rw [← h.1]; exact hjl)
   cases e
   rw [Addr.add_lit]; exact hc)
  rw [List.length_map, List.length_map, h.1] at hl
  rw [run_convert_bytes_string w _ _ _ (some ad) n c Tryz.underlying22 Tryz.underlying5 Tryz.underlying9, run_bytesToString w ad n c _ hl, foldl_push_bytes]
  congr 2
  apply ByteArray.ext
  simp only [str, List.map_map, ByteArray.data_empty, Array.empty_append]
  congr 1
  apply List.map_congr_left
  intro b _
  simp only [Function.comp_def, B8, Int.toNat_natCast]
  apply UInt8.toNat_inj.1
  simp
section
variable {w : World} {ops : Array Oper} {rest : List Oper} {a : Act} {Q : Exit → Act → World → Prop}
theorem wpList_string (dst : Option Tmp) (ty : TypeId) (pos : String) (aft : Array Edge) (x : Operand)
 (ad : Option Addr) (n c : Nat) (l : Bytes) (hx : a.eval x = .slice ad n c) (hb : IsBytes w ad n c l)
 (h : wpList Tryz.prog ops Q rest (a.put dst (.string (str l))) w) :
 wpList Tryz.prog ops Q (⟨dst, .convert 22 9 x, ty, pos, aft, none⟩ :: rest) a w := by
 refine wpList_plain rfl fun K hK => ?_
 unfold Oper.wp
 simp [execOp, hx, run_string_of hb, Result.andThen]
 exact hK _ _ h
end
end Go.Proofs.YtidlpihoafnobaaGreatDoor
namespace Go.Proofs.YtidlpihoafnobaaGreatDoor
set_option maxRecDepth 100000
open Go.RowKit
theorem own_knob : ownKnob Tryz.prog.godebug = none := by kernel_rfl
theorem laid_out : laidOutB Tryz.prog = true := by kernel_rfl
theorem cells_u8 : Tryz.prog.cellsOf 5 = 1 := by kernel_rfl
theorem isBytes_of_ints {w : World} {x : Addr} {n c : Nat} {zs : List Int} (hl : n ≤ c) (hm : c ≤ maxLen) (hz : zs.length = c)
 (hcell : ∀ i, i < zs.length → w.cell? (x.add i) = some (.int .u8 (zs.getD i 0))) (hwz : ∀ n ∈ zs, (Lit.int .u8 n).wf = true) :
 IsBytes w (some x) n c ((zs.take n).map O8) := by
 refine ⟨by rw [List.length_map, List.length_take]; omega, hl, by unfold maxLen at hm; omega, (fun e => by cases e), fun i hi => ?_⟩
 obtain ⟨b, off, spot⟩ := x
 have hc := hcell i (by omega)
 have h0 := hcell 0 (by omega)
 have hspot : spot = none := by simpa [Addr.add] using World.cell?_spot h0
 subst hspot
 refine ⟨b, off, rfl, ?_⟩
 rw [Addr.add_lit] at hc
 rw [hc]
 have hi' : i < zs.length := by omega
 have e1 : zs.getD i 0 = zs[i] := by rw [List.getD_eq_getElem?_getD, List.getElem?_eq_getElem hi']; rfl
 have e2 : ((zs.take n).map O8).getD i 0 = O8 zs[i] := by
  rw [List.getD_eq_getElem?_getD, List.getElem?_map, List.getElem?_take, if_pos hi, List.getElem?_eq_getElem hi']; rfl
 have hw := hwz zs[i] (List.getElem_mem hi')
 have hb : 0 ≤ zs[i] ∧ zs[i] ≤ 255 := by
  have hmin : IntKind.u8.min = 0 := rfl
  have hmax : IntKind.u8.max = 255 := rfl
  simp only [Lit.wf, Bool.and_eq_true, decide_eq_true_eq] at hw
  omega
 rw [e1, e2, ← wrapu8, wrapu8_raw]
 congr 2
 omega
theorem word64 {n : Int} (h : (Lit.int .u64 n).wf = true) : n = W64 (O64 n) := by
 have hmin : IntKind.u64.min = 0 := rfl
 have hmax : IntKind.u64.max = 18446744073709551615 := rfl
 simp only [Lit.wf, Bool.and_eq_true, decide_eq_true_eq] at h
 rw [← wrapu64, wrapu64_raw]; omega
theorem int64 {n : Int} (h : (Lit.int .i64 n).wf = true) : -9223372036854775808 ≤ n ∧ n ≤ 9223372036854775807 := by
 have hmin : IntKind.i64.min = -9223372036854775808 := rfl
 have hmax : IntKind.i64.max = 9223372036854775807 := rfl
 simp only [Lit.wf, Bool.and_eq_true, decide_eq_true_eq] at h
 omega
end Go.Proofs.YtidlpihoafnobaaGreatDoor
namespace Go.Proofs.YtidlpihoafnobaaGreatDoor
set_option maxRecDepth 100000
def rotl32 (x : BitVec 32) (n : Int) : BitVec 32 := x.rotateLeft (n % 32).toNat
def rotl64 (x : BitVec 64) (n : Int) : BitVec 64 := x.rotateLeft (n % 64).toNat
theorem and31 (n : Int) : (W64 (O64 (n.tmod 32) &&& 31#64)).toNat = (n % 32).toNat := by
 have h : (O64 (n.tmod 32) &&& 31#64).toNat = (BitVec.ofInt 64 (n.tmod 32)).toNat % 32 := by
  rw [BitVec.toNat_and]; exact Nat.and_two_pow_sub_one_eq_mod _ 5
 unfold W64; rw [h, BitVec.toNat_ofInt, Int.tmod_def]; omega
theorem and63 (n : Int) : (W64 (O64 (n.tmod 64) &&& 63#64)).toNat = (n % 64).toNat := by
 have h : (O64 (n.tmod 64) &&& 63#64).toNat = (BitVec.ofInt 64 (n.tmod 64)).toNat % 64 := by
  rw [BitVec.toNat_and]; exact Nat.and_two_pow_sub_one_eq_mod _ 6
 unfold W64; rw [h, BitVec.toNat_ofInt, Int.tmod_def]; omega
theorem pow32 (x : BitVec 32) (s : Nat) : x * O32 (2 ^ s) = x <<< s := by
 rw [BitVec.shiftLeft_eq_mul_twoPow]; congr 1
 apply BitVec.eq_of_toNat_eq
 have : ((2 : Int) ^ s) = ((2 ^ s : Nat) : Int) := by simp
 rw [O32, this, BitVec.ofInt_natCast, BitVec.toNat_ofNat, BitVec.toNat_twoPow]
theorem pow64 (x : BitVec 64) (s : Nat) : x * O64 (2 ^ s) = x <<< s := by
 rw [BitVec.shiftLeft_eq_mul_twoPow]; congr 1
 apply BitVec.eq_of_toNat_eq
 have : ((2 : Int) ^ s) = ((2 ^ s : Nat) : Int) := by simp
 rw [O64, this, BitVec.ofInt_natCast, BitVec.toNat_ofNat, BitVec.toNat_twoPow]
theorem shr32 (x : BitVec 32) (s : Nat) : O32 (W32 x / 2 ^ s) = x >>> s := by
 have : W32 x / 2 ^ s = ((x.toNat / 2 ^ s : Nat) : Int) := by unfold W32; simp
 rw [this, O32_nat]; apply BitVec.eq_of_toNat_eq
 rw [BitVec.toNat_ofNat, BitVec.toNat_ushiftRight, Nat.shiftRight_eq_div_pow]
 exact Nat.mod_eq_of_lt (Nat.lt_of_le_of_lt (Nat.div_le_self _ _) x.isLt)
theorem shr64 (x : BitVec 64) (s : Nat) : O64 (W64 x / 2 ^ s) = x >>> s := by
 have : W64 x / 2 ^ s = ((x.toNat / 2 ^ s : Nat) : Int) := by unfold W64; simp
 rw [this, O64_nat]; apply BitVec.eq_of_toNat_eq
 rw [BitVec.toNat_ofNat, BitVec.toNat_ushiftRight, Nat.shiftRight_eq_div_pow]
 exact Nat.mod_eq_of_lt (Nat.lt_of_le_of_lt (Nat.div_le_self _ _) x.isLt)
theorem rot32_prog (x : BitVec 32) (n : Int) :
 (x * O32 (2 ^ min (W64 (O64 (n.tmod 32) &&& 31#64)).toNat 32) ||| O32 (W32 x / 2 ^ min (W64 (32#64 - (O64 (n.tmod 32) &&& 31#64))).toNat 32)) = rotl32 x n := by
 have h1 := and31 n
 have h2 : (W64 (32#64 - (O64 (n.tmod 32) &&& 31#64))).toNat = 32 - (n % 32).toNat := by
  have h3 : (O64 (n.tmod 32) &&& 31#64).toNat = (n % 32).toNat := by rw [← h1]; rfl
  show ((32#64 - (O64 (n.tmod 32) &&& 31#64)).toNat : Int).toNat = _
  rw [BitVec.toNat_sub, h3]; simp; omega
 rw [h1, h2, Nat.min_eq_left (by omega), Nat.min_eq_left (by omega), pow32, shr32]
 unfold rotl32 BitVec.rotateLeft BitVec.rotateLeftAux
 rw [Nat.mod_eq_of_lt (by omega : (n % 32).toNat < 32)]
theorem rot64_prog (x : BitVec 64) (n : Int) :
 (x * O64 (2 ^ min (W64 (O64 (n.tmod 64) &&& 63#64)).toNat 64) ||| O64 (W64 x / 2 ^ min (W64 (64#64 - (O64 (n.tmod 64) &&& 63#64))).toNat 64)) = rotl64 x n := by
 have h1 := and63 n
 have h2 : (W64 (64#64 - (O64 (n.tmod 64) &&& 63#64))).toNat = 64 - (n % 64).toNat := by
  have h3 : (O64 (n.tmod 64) &&& 63#64).toNat = (n % 64).toNat := by rw [← h1]; rfl
  show ((64#64 - (O64 (n.tmod 64) &&& 63#64)).toNat : Int).toNat = _
  rw [BitVec.toNat_sub, h3]; simp; omega
 rw [h1, h2, Nat.min_eq_left (by omega), Nat.min_eq_left (by omega), pow64, shr64]
 unfold rotl64 BitVec.rotateLeft BitVec.rotateLeftAux
 rw [Nat.mod_eq_of_lt (by omega : (n % 64).toNat < 64)]
theorem double32 (x : BitVec 32) : x * 2#32 + x / 2147483648#32 = x <<< 1 ||| x >>> 31 := by
 have h1 : x * 2#32 = x <<< 1 := by rw [BitVec.shiftLeft_eq_mul_twoPow]; rfl
 have h2 : x / 2147483648#32 = x >>> 31 := by
  apply BitVec.eq_of_toNat_eq
  rw [BitVec.toNat_udiv, BitVec.toNat_ushiftRight, Nat.shiftRight_eq_div_pow]; rfl
 rw [h1, h2]
 apply BitVec.add_eq_or_of_and_eq_zero
 apply BitVec.eq_of_getLsbD_eq
 intro i hi
 rw [BitVec.getLsbD_and, BitVec.getLsbD_shiftLeft, BitVec.getLsbD_ushiftRight]
 by_cases h0 : i = 0
 · subst h0; simp
 · rw [BitVec.getLsbD_of_ge x (31 + i) (by omega)]; simp
theorem double64 (x : BitVec 64) : x * 2#64 + x / 9223372036854775808#64 = x <<< 1 ||| x >>> 63 := by
 have h1 : x * 2#64 = x <<< 1 := by rw [BitVec.shiftLeft_eq_mul_twoPow]; rfl
 have h2 : x / 9223372036854775808#64 = x >>> 63 := by
  apply BitVec.eq_of_toNat_eq
  rw [BitVec.toNat_udiv, BitVec.toNat_ushiftRight, Nat.shiftRight_eq_div_pow]; rfl
 rw [h1, h2]
 apply BitVec.add_eq_or_of_and_eq_zero
 apply BitVec.eq_of_getLsbD_eq
 intro i hi
 rw [BitVec.getLsbD_and, BitVec.getLsbD_shiftLeft, BitVec.getLsbD_ushiftRight]
 by_cases h0 : i = 0
 · subst h0; simp
 · rw [BitVec.getLsbD_of_ge x (63 + i) (by omega)]; simp
theorem step32 (x : BitVec 32) (k : Nat) (hk : k + 1 < 32) : x.rotateLeft k * 2#32 + x.rotateLeft k / 2147483648#32 = x.rotateLeft (k + 1) := by
 rw [double32]
 apply BitVec.eq_of_getLsbD_eq
 intro i hi
 simp only [BitVec.getLsbD_or, BitVec.getLsbD_shiftLeft, BitVec.getLsbD_ushiftRight, BitVec.getLsbD_rotateLeft]
 rw [Nat.mod_eq_of_lt (by omega : k < 32), Nat.mod_eq_of_lt (by omega : k + 1 < 32)]
 by_cases h0 : i = 0
 · subst h0
   have e : 32 - (k + 1) + 0 = 31 + 0 - k := by omega
   rw [e, show decide (31 + 0 < k) = false from decide_eq_false (by omega), show decide (0 < k + 1) = true from decide_eq_true (by omega)]; rfl
 · by_cases h1 : i < k + 1
   · simp [h0, h1, hi, show i - 1 < k by omega, show ¬ 31 + i < 32 by omega, show 32 - k + (i - 1) = 32 - (k + 1) + i by omega, show ¬ 31 + i < k by omega]
   · simp [h0, h1, hi, show ¬ i - 1 < k by omega, show ¬ 31 + i < 32 by omega, show i - 1 - k = i - (k + 1) by omega, show ¬ 31 + i < k by omega, show i - 1 < 32 by omega]
theorem step64 (x : BitVec 64) (k : Nat) (hk : k + 1 < 64) : x.rotateLeft k * 2#64 + x.rotateLeft k / 9223372036854775808#64 = x.rotateLeft (k + 1) := by
 rw [double64]
 apply BitVec.eq_of_getLsbD_eq
 intro i hi
 simp only [BitVec.getLsbD_or, BitVec.getLsbD_shiftLeft, BitVec.getLsbD_ushiftRight, BitVec.getLsbD_rotateLeft]
 rw [Nat.mod_eq_of_lt (by omega : k < 64), Nat.mod_eq_of_lt (by omega : k + 1 < 64)]
 by_cases h0 : i = 0
 · subst h0
   have e : 64 - (k + 1) + 0 = 63 + 0 - k := by omega
   rw [e, show decide (63 + 0 < k) = false from decide_eq_false (by omega), show decide (0 < k + 1) = true from decide_eq_true (by omega)]; rfl
 · by_cases h1 : i < k + 1
   · simp [h0, h1, hi, show i - 1 < k by omega, show ¬ 63 + i < 64 by omega, show 64 - k + (i - 1) = 64 - (k + 1) + i by omega, show ¬ 63 + i < k by omega]
   · simp [h0, h1, hi, show ¬ i - 1 < k by omega, show ¬ 63 + i < 64 by omega, show i - 1 - k = i - (k + 1) by omega, show ¬ 63 + i < k by omega, show i - 1 < 64 by omega]
theorem rotl32_zero (x : BitVec 32) : x.rotateLeft 0 = x := by
 apply BitVec.eq_of_getLsbD_eq
 intro i hi
 rw [BitVec.getLsbD_rotateLeft]; simp [hi]
theorem rotl64_zero (x : BitVec 64) : x.rotateLeft 0 = x := by
 apply BitVec.eq_of_getLsbD_eq
 intro i hi
 rw [BitVec.getLsbD_rotateLeft]; simp [hi]
end Go.Proofs.YtidlpihoafnobaaGreatDoor
namespace Go.Proofs.YtidlpihoafnobaaGreatDoor
set_option maxRecDepth 100000
def fmix32 (h : BitVec 32) : BitVec 32 :=
 ((h ^^^ h / 65536#32) * 2246822507#32 ^^^ (h ^^^ h / 65536#32) * 2246822507#32 / 8192#32) * 3266489909#32 ^^^
  ((h ^^^ h / 65536#32) * 2246822507#32 ^^^ (h ^^^ h / 65536#32) * 2246822507#32 / 8192#32) * 3266489909#32 / 65536#32
theorem bit_parity (a b j : Nat) : (a ^^^ b) / 2 ^ j % 2 = (a / 2 ^ j % 2 + b / 2 ^ j % 2) % 2 := by
 have h := Nat.testBit_xor a b j
 simp only [Nat.testBit_eq_decide_div_mod_eq] at h
 have h1 := Nat.mod_two_eq_zero_or_one (a / 2 ^ j)
 have h2 := Nat.mod_two_eq_zero_or_one (b / 2 ^ j)
 have h3 := Nat.mod_two_eq_zero_or_one ((a ^^^ b) / 2 ^ j)
 rcases h1 with h1 | h1 <;> rcases h2 with h2 | h2 <;> rcases h3 with h3 | h3 <;> simp_all
def lowb (x : BitVec 64) (j : Nat) : BitVec 64 := BitVec.ofNat 64 (x.toNat % 2 ^ j)
theorem lowb_zero (x : BitVec 64) : lowb x 0 = 0#64 := by simp [lowb, Nat.mod_one]
theorem lowb_all (x : BitVec 64) : lowb x 64 = x := by
 apply BitVec.eq_of_toNat_eq
 have := x.isLt
 simp [lowb, BitVec.toNat_ofNat]
 omega
theorem mod_pow_succ' (n j : Nat) : n % 2 ^ (j + 1) = n % 2 ^ j + 2 ^ j * (n / 2 ^ j % 2) := by
 rw [Nat.pow_succ, Nat.mod_mul]
theorem O64_bit (z : BitVec 64) (j : Nat) : O64 ((W64 z / 2 ^ j).tmod 2) = BitVec.ofNat 64 (z.toNat / 2 ^ j % 2) := by
 have e : (W64 z / 2 ^ j).tmod 2 = ((z.toNat / 2 ^ j % 2 : Nat) : Int) := by
  rw [Int.tmod_eq_emod_of_nonneg (Int.ediv_nonneg (W64_nn z) (by exact Int.le_of_lt (Int.pow_pos (by decide))))]
  simp [W64]
 rw [e, O64_nat]
theorem O64_pow (j : Nat) : O64 (2 ^ j) = BitVec.ofNat 64 (2 ^ j) := by
 rw [← O64_nat]; congr 1
theorem min_shift (j : Nat) (h : j < 64) : min (W64 (BitVec.ofNat 64 j)).toNat 64 = j := by
 rw [W64_of_nat j (by omega)]; omega
theorem min_shift2 (j k : Nat) (h : j + k < 64) : min (W64 (BitVec.ofNat 64 j + BitVec.ofNat 64 k)).toNat 64 = j + k := by
 rw [← BitVec.ofNat_add]; exact min_shift _ h
theorem fold_bit (z : BitVec 64) (k j : Nat) : (z ^^^ z >>> k).toNat / 2 ^ j % 2 = (z.toNat / 2 ^ j % 2 + z.toNat / 2 ^ (j + k) % 2) % 2 := by
 rw [BitVec.toNat_xor, BitVec.toNat_ushiftRight, bit_parity, Nat.shiftRight_eq_div_pow, Nat.div_div_eq_div_mul, ← Nat.pow_add, Nat.add_comm k j]
theorem low_next (x : BitVec 64) (j b : Nat) (hj : j < 64) (hb : x.toNat / 2 ^ j % 2 = b) : lowb x j + BitVec.ofNat 64 b * BitVec.ofNat 64 (2 ^ j) = lowb x (j + 1) := by
 unfold lowb
 rw [mod_pow_succ', hb, Nat.mul_comm (2 ^ j) b, BitVec.ofNat_add, BitVec.ofNat_mul]
theorem par_mod (a b : Nat) (ha : a < 2) (hb : b < 2) : (BitVec.ofNat 64 a + BitVec.ofNat 64 b) % 2#64 = BitVec.ofNat 64 ((a + b) % 2) := by
 rcases (show a = 0 ∨ a = 1 by omega) with rfl | rfl <;> rcases (show b = 0 ∨ b = 1 by omega) with rfl | rfl <;> rfl
theorem fold_step2 (z : BitVec 64) (k j : Nat) (hj : j + k < 64) : lowb (z ^^^ z >>> k) j +
 (O64 ((W64 z / 2 ^ min (W64 (BitVec.ofNat 64 j)).toNat 64).tmod 2) + O64 ((W64 z / 2 ^ min (W64 (BitVec.ofNat 64 j + BitVec.ofNat 64 k)).toNat 64).tmod 2)) % 2#64 *
  O64 (2 ^ min (W64 (BitVec.ofNat 64 j)).toNat 64) = lowb (z ^^^ z >>> k) (j + 1) := by
 rw [min_shift j (by omega), min_shift2 j k hj, O64_bit, O64_bit, O64_pow, par_mod _ _ (Nat.mod_lt _ (by omega)) (Nat.mod_lt _ (by omega))]
 exact low_next _ _ _ (by omega) (fold_bit z k j)
theorem fold_step1 (z : BitVec 64) (k j : Nat) (hj : j < 64) (hk : 64 ≤ j + k) : lowb (z ^^^ z >>> k) j +
 O64 ((W64 z / 2 ^ min (W64 (BitVec.ofNat 64 j)).toNat 64).tmod 2) * O64 (2 ^ min (W64 (BitVec.ofNat 64 j)).toNat 64) = lowb (z ^^^ z >>> k) (j + 1) := by
 rw [min_shift j (by omega), O64_bit, O64_pow]
 have h0 : z.toNat / 2 ^ (j + k) = 0 := Nat.div_eq_of_lt (Nat.lt_of_lt_of_le z.isLt (Nat.pow_le_pow_right (by omega) hk))
 refine low_next _ _ _ (by omega) ?_
 rw [fold_bit, h0]; simp
theorem div_shr32 (x c : BitVec 32) (k : Nat) (h : c.toNat = 2 ^ k) : x / c = x >>> k := by
 apply BitVec.eq_of_toNat_eq
 rw [BitVec.toNat_udiv, BitVec.toNat_ushiftRight, h, Nat.shiftRight_eq_div_pow]
theorem div_shr64 (x c : BitVec 64) (k : Nat) (h : c.toNat = 2 ^ k) : x / c = x >>> k := by
 apply BitVec.eq_of_toNat_eq
 rw [BitVec.toNat_udiv, BitVec.toNat_ushiftRight, h, Nat.shiftRight_eq_div_pow]
theorem narrow_fold (h : BitVec 32) (k : Nat) (c : BitVec 32) (hc : c.toNat = 2 ^ k) : BitVec.setWidth 32 (h.setWidth 64 ^^^ h.setWidth 64 >>> k) = h ^^^ h / c := by
 rw [div_shr32 h c k hc]
 apply BitVec.eq_of_toNat_eq
 have h1 := h.isLt
 have h2 : h.toNat >>> k < 4294967296 := by rw [Nat.shiftRight_eq_div_pow]; exact Nat.lt_of_le_of_lt (Nat.div_le_self _ _) h1
 have h3 : h.toNat ^^^ h.toNat >>> k < 2 ^ 32 := Nat.xor_lt_two_pow h1 h2
 simp only [BitVec.toNat_setWidth, BitVec.toNat_xor, BitVec.toNat_ushiftRight]
 rw [Nat.mod_eq_of_lt (show h.toNat < 2 ^ 64 by omega), Nat.mod_eq_of_lt h3]
theorem mod32 (x : BitVec 64) : BitVec.setWidth 32 (x % 4294967296#64) = BitVec.setWidth 32 x := by
 apply BitVec.eq_of_toNat_eq
 simp only [BitVec.toNat_setWidth, BitVec.toNat_umod, BitVec.toNat_ofNat]
 rw [show 4294967296 % 2 ^ 64 = 4294967296 from rfl]
 omega
end Go.Proofs.YtidlpihoafnobaaGreatDoor
namespace Go.Proofs.YtidlpihoafnobaaGreatDoor
set_option maxRecDepth 100000
open Go.RowKit
def Gives (v : Value) (w : World) (e : Ending) (w' : World) : Prop := e = .returned v ∧ w = w'
def GivesNew (v : Value) (w : World) (e : Ending) (w' : World) : Prop := e = .returned v ∧ Fr No w w'
def GivesBytes (l : Bytes) (w : World) (e : Ending) (w' : World) : Prop := ∃ v, e = .returned v ∧ Owns w' w.heap.size v l ∧ Fr No w w'
def Yes (w : World) (e : Ending) (w' : World) : Prop := e = .returned (.bool true) ∧ Fr No w w'
theorem ret_w32 {a b : BitVec 32} (h : a = b) : Ending.returned (.int .u32 (W32 a)) = .returned (.int .u32 (W32 b)) := by rw [h]
theorem ret_w64 {a b : BitVec 64} (h : a = b) : Ending.returned (.int .u64 (W64 a)) = .returned (.int .u64 (W64 b)) := by rw [h]
theorem ret_i64 {a b : Int} (h : a = b) : Ending.returned (.int .i64 a) = .returned (.int .i64 b) := by rw [h]
theorem ret_w32b {a b : BitVec 32} {p q : Bool} (h : a = b) (k : p = q) : Ending.returned (.tuple #[.int .u32 (W32 a), .bool p]) = .returned (.tuple #[.int .u32 (W32 b), .bool q]) := by rw [h, k]
theorem ret_w64b {a b : BitVec 64} {p q : Bool} (h : a = b) (k : p = q) : Ending.returned (.tuple #[.int .u64 (W64 a), .bool p]) = .returned (.tuple #[.int .u64 (W64 b), .bool q]) := by rw [h, k]
end Go.Proofs.YtidlpihoafnobaaGreatDoor
namespace Go.Proofs.YtidlpihoafnobaaGreatDoor
set_option maxRecDepth 100000
open Go.RowKit
def IsInts (w : World) (a : Option Addr) (n c : Nat) (l : List Int) : Prop :=
 l.length = n ∧ n ≤ c ∧ c ≤ 9223372036854775807 ∧ (a = none → c = 0) ∧ ∀ i, i < n → (∃ b off, a = some ⟨b, off, none⟩ ∧ w.cell? ⟨b, off + i, none⟩ = some (.int .i64 (l.getD i 0))) ∧ -9223372036854775808 ≤ l.getD i 0 ∧ l.getD i 0 ≤ 9223372036854775807
theorem IsInts.nil (w : World) : IsInts w none 0 0 [] := ⟨rfl, Nat.le_refl _, by omega, fun _ => rfl, fun i hi => absurd hi (Nat.not_lt_zero _)⟩
theorem IsInts.no {w w' : World} {a : Option Addr} {n c : Nat} {l : List Int} (h : IsInts w a n c l) (k : Fr No w w') : IsInts w' a n c l :=
 ⟨h.1, h.2.1, h.2.2.1, h.2.2.2.1, fun i hi => by
  obtain ⟨⟨b, off, e, hc⟩, h1, h2⟩ := h.2.2.2.2 i hi
  exact ⟨⟨b, off, e, k.cell (p := ⟨b, off + i, none⟩) (fun h => h) hc⟩, h1, h2⟩⟩
end Go.Proofs.YtidlpihoafnobaaGreatDoor
namespace Go.Proofs.YtidlpihoafnobaaGreatDoor
set_option maxRecDepth 100000
open Go.RowKit
theorem Owns.empty (w : World) : Owns (w.alloc (.cells #[] 5)) w.heap.size (.slice (some ⟨w.heap.size, 0, none⟩) 0 0) [] :=
 World.ownsRow_made w #[] 0 (Nat.le_refl _) (by unfold maxLen; omega) rfl
set_option maxHeartbeats 400000 in
theorem Clone_any (a : Option Addr) (n c : Nat) (l : Bytes) (w : World) (h : IsBytes w a n c l) (hn : n ≤ 140737488355328) :
 Calls Tryz.prog 182 #[.slice a n c] w (GivesBytes l w) := by
 have qT : ∀ (w : World) (a : Option Addr) (n c n' c' : Nat), (binOp .eql 22 (.slice a n c) (.slice none n' c')).run Tryz.prog w = .ok (.bool a.isNone) w := fun w a n c n' c' => Lib.run_eql_slice_nil w _ _ a n c n' c' Tryz.underlying22
 cases a with
 | none =>
  have hc : c = 0 := h.2.2.2.1 rfl
  have hm : n = 0 := by have := h.2.1; omega
  subst hm; subst hc
  obtain rfl : l = [] := List.eq_nil_of_length_eq_zero h.1
  go_enter Tryz.func182, Tryz.ntmps182
  go_wp2
  go_ret
  exact ⟨_, rfl, Owns.nil _ _, Fr.refl _ _⟩
 | some x =>
  have hal := h.no ((Fr.refl No w).alloc (.cells #[] 5))
  go_enter Tryz.func182, Tryz.ntmps182
  go_wp2_with (refine wpList_append_bytes _ _ _ _ _ _ w.heap.size _ [] rfl (Owns.empty w) _ _ _ l rfl hal (by simp; omega) (by simp) ?_; intro v1 w1 hown1 hfr1 _)
  go_ret
  exact ⟨_, rfl, hown1, ((Fr.refl No w).alloc _).append hfr1 (Owns.empty w) (Nat.le_refl _)⟩
def sizeOk (n : Int) : Int := if n < 1 then 1 else if 64 < n then 64 else n
theorem sizeOk_bd (n : Int) : 1 ≤ sizeOk n ∧ sizeOk n ≤ 64 := by unfold sizeOk; split <;> (try split) <;> omega
theorem sized_any (n : Int) (w : World) (h1 : -9223372036854775808 ≤ n) (h2 : n ≤ 9223372036854775807) :
 Calls Tryz.prog 180 #[.int .i64 n] w (Gives (.int .i64 (sizeOk n)) w) := by
 rcases (show n < 1 ∨ (1 ≤ n ∧ n ≤ 64) ∨ 64 < n by omega) with h | ⟨h, h'⟩ | h
 · rw [show sizeOk n = 1 by unfold sizeOk; rw [if_pos h]]
   go_enter Tryz.func180, Tryz.ntmps180
   go_wp2
   all_goals (go_ret; exact ⟨rfl, rfl⟩)
 · rw [show sizeOk n = n by unfold sizeOk; rw [if_neg (by omega), if_neg (by omega)]]
   rcases (show n = 1 ∨ n = 64 ∨ (1 < n ∧ n < 64) by omega) with rfl | rfl | ⟨g1, g2⟩
   all_goals
    go_enter Tryz.func180, Tryz.ntmps180
    go_wp2
    all_goals (go_ret; exact ⟨rfl, rfl⟩)
 · rw [show sizeOk n = 64 by unfold sizeOk; rw [if_neg (by omega), if_pos h]]
   go_enter Tryz.func180, Tryz.ntmps180
   go_wp2
   all_goals (go_ret; exact ⟨rfl, rfl⟩)
end Go.Proofs.YtidlpihoafnobaaGreatDoor
namespace Go.Proofs.YtidlpihoafnobaaGreatDoor
set_option maxRecDepth 100000
open Go.RowKit
theorem Fmix32_any (h : BitVec 32) (w : World) :
 Calls Tryz.prog 107 #[.int .u32 (W32 h)] w (Gives (.int .u32 (W32 (fmix32 h))) w) := by
 go_enter Tryz.func107, Tryz.ntmps107
 go_wp2
 go_ret
 exact ⟨rfl, rfl⟩
set_option maxHeartbeats 400000 in
theorem refFold7_any (z : BitVec 64) (n : Int) (k : Nat) (w : World) (hn : n = k) (h1 : 1 ≤ k) (h2 : k ≤ 63) :
 Calls Tryz.prog 109 #[.int .u64 (W64 z), .int .i64 n] w (Gives (.int .u64 (W64 (z ^^^ z >>> k))) w) := by
 subst hn
 have i1 : (1 : Int) ≤ (k : Int) := by omega
 have i2 : (k : Int) ≤ 63 := by omega
 go_enter Tryz.func109, Tryz.ntmps109
 go_wp2
 go_loop [5, 6] (fun y i => ∃ j : Nat, j ≤ 64 ∧ i = .int .i64 j ∧ y = .int .u64 (W64 (lowb (z ^^^ z >>> k) j))) (fun _ i => 64 - (intOf i).toNat)
 case atStart => exact ⟨0, by omega, rfl, by rw [lowb_zero]; rfl⟩
 case round =>
  obtain ⟨j, hj, rfl, rfl⟩ := hrel
  by_cases hlt : j < 64
  · have i3 : (j : Int) < 64 := by omega
    by_cases hs : j + k < 64
    · have HS := Lib.hid (fold_step2 z k j hs)
      have i4 : (j : Int) + (k : Int) < 64 := by omega
      generalize lowb (z ^^^ z >>> k) j = y at HS ⊢
      go_wp2
      exact ⟨⟨j + 1, by omega, rfl, by rw [← HS.out]⟩, by simp [intOf]; omega⟩
    · have HS := Lib.hid (fold_step1 z k j hlt (by omega))
      have i4 : ¬ (j : Int) + (k : Int) < 64 := by omega
      generalize lowb (z ^^^ z >>> k) j = y at HS ⊢
      go_wp2
      exact ⟨⟨j + 1, by omega, rfl, by rw [← HS.out]⟩, by simp [intOf]; omega⟩
  · obtain rfl : j = 64 := by omega
    rw [lowb_all]
    go_wp2
    go_ret
    exact ⟨rfl, rfl⟩
theorem refFmix32_any (h : BitVec 32) (w : World) :
 Calls Tryz.prog 63 #[.int .u32 (W32 h)] w (Gives (.int .u32 (W32 (fmix32 h))) w) := by
 go_enter Tryz.func63, Tryz.ntmps63
 go_wp2_with fail
 refine (refFold7_any _ 16 16 _ rfl (by omega) (by omega)).mono ?_
 rintro e w' ⟨rfl, rfl⟩
 have h1 := narrow_fold h 16 65536#32 rfl
 go_wp2_with fail
 clear h1
 refine (refFold7_any _ 13 13 _ rfl (by omega) (by omega)).mono ?_
 rintro e w' ⟨rfl, rfl⟩
 have h2 := narrow_fold ((h ^^^ h / 65536#32) * 2246822507#32) 13 8192#32 rfl
 go_wp2_with fail
 clear h2
 refine (refFold7_any _ 16 16 _ rfl (by omega) (by omega)).mono ?_
 rintro e w' ⟨rfl, rfl⟩
 have h3 := narrow_fold (((h ^^^ h / 65536#32) * 2246822507#32 ^^^ (h ^^^ h / 65536#32) * 2246822507#32 / 8192#32) * 3266489909#32) 16 65536#32 rfl
 go_wp2_with fail
 clear h3
 go_ret
 exact ⟨rfl, rfl⟩
end Go.Proofs.YtidlpihoafnobaaGreatDoor
