/- StreamM32 FoldM32 RestM32 LiveM32 CodeM32 Words2 Arr4 HashM32 Pieces AllM32 -/
import Derived.Deep.QuietTactic
import Derived.Deep.RegionHeld3
import Derived.Laws.StructEq
import Derived.Test.YtidlpihoafnobaaGreatProg
import Derived.Test.YtidlpihoafnobaaGreatPStrHasher
import Derived.Test.YtidlpihoafnobaaGreatPLoad
set_option linter.unusedVariables false
set_option linter.unusedSimpArgs false
namespace Go.Proofs.YtidlpihoafnobaaGreat.StM32
set_option maxRecDepth 100000
open Go.RowKit
abbrev ST := BitVec 32
def cS (s : ST) (i : Nat) : Value := .int .u32 (W32 s)
theorem cS_one (s : ST) (i : Nat) : (cS s i).oneCell' = true := by unfold cS; (try split) <;> rfl
@[go_sem] theorem run_store_cS (w : World) (a : Addr) (s : ST) (i : Nat) (md : Mode) : (store a (cS s i) md).run Tryz.prog w = stored Tryz.prog w a (cS s i) md := run_store Tryz.prog w a _ md (cS_one s i)
@[go_sem ↓] theorem cS_cells (s : ST) (i : Nat) : (cS s i).cells = #[cS s i] := by unfold cS; (try split) <;> rfl
def fvS (q : Nat) : Value := (.func (.func 108) #[.agg #[]] #[])
def stCells (size : Int) (f s : ST) (q : Nat) (tv : Value) (lo : BitVec 64) : List Value := [.int .i64 size, .int .u32 (W32 f), .int .u32 (W32 s), fvS q, tv, .int .u64 (W64 lo)]
def StreamAt (w : World) (sb : Nat) (size : Int) (f s : ST) (q : Nat) (tv : Value) (lo : BitVec 64) : Prop := w.heap[sb]? = some (.cells (stCells size f s q tv lo).toArray 197 (0, 0))
def GivesS (s : ST) (w : World) (e : Ending) (w' : World) : Prop := e = .returned ((.int .u32 (W32 s))) ∧ Fr No w w'
theorem neq_fv (q : Nat) (w : World) : (binOp .neq 92 ((.func (.func 108) #[.agg #[]] #[])) .nilFunc).run Tryz.prog w = .ok (.bool true) w := by kernel_rfl
theorem stepped_any (q : Nat) (w : World) : Calls Tryz.prog 172 #[(.func (.func 108) #[.agg #[]] #[])] w (Gives ((.func (.func 108) #[.agg #[]] #[])) w) := by
 have hq := neq_fv q
 go_enter Tryz.func172, Tryz.ntmps172
 go_wp2
 go_ret
 exact ⟨rfl, rfl⟩
def GivesStream (size : Int) (f s : ST) (q : Nat) (w : World) (e : Ending) (w' : World) : Prop := ∃ sb, e = .returned (.pointer (some ⟨sb, 0, none⟩)) ∧ w.heap.size ≤ sb ∧ sb < w'.heap.size ∧ StreamAt w' sb size f s q (.slice none 0 0) 0#64 ∧ Fr No w w'
set_option maxHeartbeats 1000000 in
theorem New_any (size : Int) (f : ST) (q : Nat) (w : World) (h1 : -9223372036854775808 ≤ size) (h2 : size ≤ 9223372036854775807) :
 Calls Tryz.prog 110 #[.int .i64 size, (.int .u32 (W32 f)), (.func (.func 108) #[.agg #[]] #[])] w (GivesStream (sizeOk size) f f q w) := by
 have hq := sizeOk_bd size
 go_enter Tryz.func110, Tryz.ntmps110
 go_wp2_with (first | (go_at_call 171; refine (sized_any _ _ h1 h2).mono ?_; rintro e w' ⟨rfl, rfl⟩) | (go_at_call 172; refine (stepped_any q _).mono ?_; rintro e w' ⟨rfl, rfl⟩))
 go_ret
 exact ⟨w.heap.size, rfl, by omega, by simp, heap_alloc_new w _, (Fr.refl _ _).alloc _⟩
theorem StreamAt.cell {w : World} {sb : Nat} {size : Int} {f s : ST} {q : Nat} {tv : Value} {lo : BitVec 64} (h : StreamAt w sb size f s q tv lo) (k : Nat) {v : Value} (hk : (stCells size f s q tv lo)[k]? = some v) : w.cell? ⟨sb, k, none⟩ = some v := by
 rw [cell_of_row w sb k _ _ _ h, List.getElem?_toArray]; exact hk
theorem StreamAt.frozen {w : World} {sb : Nat} {size : Int} {f s : ST} {q : Nat} {tv : Value} {lo : BitVec 64} (h : StreamAt w sb size f s q tv lo) (k : Nat) : w.frozen? ⟨sb, k, none⟩ = false := frozen_of_row w sb k _ _ h
theorem StreamAt.lt {w : World} {sb : Nat} {size : Int} {f s : ST} {q : Nat} {tv : Value} {lo : BitVec 64} (h : StreamAt w sb size f s q tv lo) : sb < w.heap.size := (Array.getElem?_eq_some_iff.1 h).1
theorem StreamAt.fr {F : Nat → Prop} {w w' : World} {sb : Nat} {size : Int} {f s : ST} {q : Nat} {tv : Value} {lo : BitVec 64} (h : StreamAt w sb size f s q tv lo) (k : Fr F w w') (hF : ¬ F sb) : StreamAt w' sb size f s q tv lo := k.heap hF h
theorem StreamAt.apart {w : World} {sb : Nat} {size : Int} {f s : ST} {q : Nat} {tv v : Value} {lo : BitVec 64} {base : Nat} {l : Bytes} (h : StreamAt w sb size f s q tv lo) (ho : Owns w base v l) : v.ownBlock ≠ some sb := fun e => by
 rcases ho.2 with ⟨rfl, _⟩ | ⟨g, cap, cur, rfl, _, hg, _⟩
 · simp [Value.ownBlock] at e
 · simp [Value.ownBlock] at e
   subst e
   rw [h] at hg
   simp at hg
theorem StreamAt.put {w : World} {sb : Nat} {size : Int} {f s s' : ST} {q : Nat} {tv tv' : Value} {lo lo' : BitVec 64} (h : StreamAt w sb size f s q tv lo) (k : Nat) (v : Value) (he : (stCells size f s q tv lo).set k v = stCells size f s' q tv' lo') : StreamAt (w.setCell ⟨sb, k, none⟩ v) sb size f s' q tv' lo' := by
 unfold StreamAt
 rw [heap_setCell_same w sb k _ _ v h]
 simp only [List.setIfInBounds_toArray, he]
def Foot (sb : Nat) (tv : Value) (x : Nat) : Prop := x = sb ∨ tv.ownBlock = some x
theorem made_any {w : World} {sb : Nat} {size : Int} {f s : ST} {q : Nat} {tv : Value} {lo : BitVec 64} (h : StreamAt w sb size f s q tv lo) : Calls Tryz.prog 177 #[.pointer (some ⟨sb, 0, none⟩)] w (Gives (.bool true) w) := by
 have cst : w.cell? ⟨sb, 3, none⟩ = some ((.func (.func 108) #[.agg #[]] #[])) := h.cell 3 rfl
 have hq := neq_fv q
 go_enter Tryz.func177, Tryz.ntmps177
 go_wp2
 go_ret
 exact ⟨rfl, rfl⟩
def Steps (E : World → Prop) (G : ST → Bytes → ST) (size q : Nat) : Prop := ∀ (w : World) (s : ST) (a : Option Addr) (n c : Nat) (l : Bytes), E w → IsBytes w a n c l → l.length = size →
 Calls Tryz.prog 108 #[.agg #[], (.int .u32 (W32 s)), .slice a n c] w (GivesS (G s l) w)
end Go.Proofs.YtidlpihoafnobaaGreat.StM32
namespace Go.Proofs.YtidlpihoafnobaaGreat.StM32
set_option maxRecDepth 100000
open Go.RowKit
def boxCells (s : ST) : List Value := [.int .u32 (W32 s)]
def BoxAt (w : World) (b : Nat) (s : ST) : Prop := w.heap[b]? = some (.cells (boxCells s).toArray 76 (0, 0))
theorem BoxAt.cell {w : World} {b : Nat} {s : ST} (h : BoxAt w b s) (k : Nat) {v : Value} (hk : (boxCells s)[k]? = some v) : w.cell? ⟨b, k, none⟩ = some v := by
 rw [cell_of_row w b k _ _ _ h, List.getElem?_toArray]; exact hk
theorem BoxAt.frozen {w : World} {b : Nat} {s : ST} (h : BoxAt w b s) (k : Nat) : w.frozen? ⟨b, k, none⟩ = false := frozen_of_row w b k _ _ h
theorem BoxAt.lt {w : World} {b : Nat} {s : ST} (h : BoxAt w b s) : b < w.heap.size := (Array.getElem?_eq_some_iff.1 h).1
theorem BoxAt.fr {F : Nat → Prop} {w w' : World} {b : Nat} {s : ST} (h : BoxAt w b s) (k : Fr F w w') (hF : ¬ F b) : BoxAt w' b s := k.heap hF h
def GivesFold (r : ST × Bytes) (w : World) (e : Ending) (w' : World) : Prop := ∃ v, e = .returned (.tuple #[(.int .u32 (W32 r.1)), v]) ∧ Owns w' w.heap.size v r.2 ∧ Fr No w w'
def FoldAt (G : ST → Bytes → ST) (size : Nat) (w0 : World) (r : ST × Bytes) (u v : Value) (wr : World) (n : Nat) : Prop :=
 ∃ a c l s, u = .int .u32 (W32 s) ∧ v = .slice a n c ∧ IsBytes w0 a n c l ∧ n ≤ 1099511627776 ∧ Fr No w0 wr ∧ foldF G size s l = r
set_option maxHeartbeats 4000000 in
theorem Fold_any (E : World → Prop) (G : ST → Bytes → ST) (sz : Int) (size : Nat) (s : ST) (q : Nat) (a : Option Addr) (n c : Nat) (l : Bytes) (w : World)
 (hkeep : ∀ w', Fr No w w' → E w') (hstep : Hid (Steps E G size q)) (h1 : -9223372036854775808 ≤ sz) (h2 : sz ≤ 9223372036854775807) (hsz : sizeOk sz = size) (h : IsBytes w a n c l) (hn : n ≤ 1099511627776) :
 Calls Tryz.prog 107 #[.int .i64 sz, (.int .u32 (W32 s)), (.func (.func 108) #[.agg #[]] #[]), .slice a n c] w (GivesFold (foldF G size s l) w) := by
 obtain ⟨r, hr⟩ : ∃ r, r = foldF G size s l := ⟨_, rfl⟩
 rw [← hr]
 have hz1 : 1 ≤ size := by have := sizeOk_bd sz; omega
 have hz2 : size ≤ 64 := by have := sizeOk_bd sz; omega
 go_enter Tryz.func107, Tryz.ntmps107
 go_wp2_with (first | (go_at_call 171; refine (sized_any _ _ h1 h2).mono ?_; rintro e w' ⟨rfl, rfl⟩; rw [hsz]) | (go_at_call 172; refine (stepped_any q _).mono ?_; rintro e w' ⟨rfl, rfl⟩))
 have hloop : FoldAt G size w r (.int .u32 (W32 s)) (.slice a n c) w n := ⟨a, c, l, s, rfl, rfl, h, hn, Fr.refl No w, hr.symm⟩
 clear h hn hr hsz
 go_loopw [1, 3] (fun u v wr => ∃ m, FoldAt G size w r u v wr m) (fun _ v _ => match v with | .slice _ m _ => m | _ => 0)
 case atStart => exact ⟨_, hloop⟩
 case round =>
  obtain ⟨m, a', c', l', s', rfl, rfl, hb0, hm', hfr', hr'⟩ := hrel
  clear hloop
  have hb' := hb0.no hfr'
  have hlen' := Lib.hid hb'.1
  have hc' : m ≤ c' := hb'.2.1
  have hc'' : c' ≤ 9223372036854775807 := hb'.2.2.1
  by_cases hlt : size ≤ m
  · have i1 : (size : Int) ≤ (m : Int) := by omega
    have i2 : (size : Int) ≤ (c' : Int) := by omega
    have hcut := Lib.hid (hb'.head size size (n' := size) (c' := size) hlt (Nat.le_refl _) (by omega) rfl rfl)
    go_wp2_with fail
    refine (Clone_any _ _ _ (l'.take size) _ hcut.out (by omega)).mono ?_
    rintro e w2 ⟨v2, rfl, ho2, hf2⟩
    obtain ⟨a2, c2, rfl, hb2, _⟩ := ho2.bytes
    have hl2 : (l'.take size).length = size := by rw [List.length_take, hlen'.out]; omega
    rw [hl2] at hb2 ⊢
    have hL2 := Lib.hid hl2
    clear hl2 ho2
    go_wp2_with fail
    refine (hstep.out _ _ _ _ _ _ (hkeep w2 (hfr'.no hf2)) hb2 hL2.out).mono ?_
    rintro e w3 ⟨rfl, hf3⟩
    have hcut2 := hb0.cut_to_end size (n' := m - size) (c' := c' - size) hlt rfl rfl
    have hfe : Fr No w w3 := (hfr'.no hf2).no hf3
    clear hb2 hcut
    go_wp2_with fail
    go_roundw
    case rel => exact ⟨m - size, _, _, _, _, rfl, rfl, hcut2, by omega, hfe, by rw [← hr']; exact (foldF_step hz1 (by rw [hlen'.out]; exact hlt)).symm⟩
    case measure => simp; omega
  · have i1 : (m : Int) < (size : Int) := by omega
    go_wp2_with fail
    refine (Clone_any _ _ _ l' _ hb' (by omega)).mono ?_
    rintro e w2 ⟨v2, rfl, ho2, hf2⟩
    go_wp2_with fail
    go_ret2
    have hsh : foldF G size s' l' = (s', l') := foldF_short (by rw [hlen'.out]; omega)
    refine ⟨v2, ?_, ?_, ?_⟩
    · rw [← hr', hsh]; rfl
    · rw [← hr', hsh]; exact ho2.mono hfr'.size
    · exact hfr'.no hf2
end Go.Proofs.YtidlpihoafnobaaGreat.StM32
namespace Go.Proofs.YtidlpihoafnobaaGreat.StM32
set_option maxRecDepth 100000
open Go.RowKit
theorem Tail_any {w : World} {sb : Nat} {size : Int} {f s : ST} {q : Nat} {tv : Value} {lo : BitVec 64} {base : Nat} {tl : Bytes} (hst : StreamAt w sb size f s q tv lo) (ho : Owns w base tv tl) (hl : tl.length ≤ 1099511627776) : Calls Tryz.prog 113 #[.pointer (some ⟨sb, 0, none⟩)] w (GivesBytes tl w) := by
 obtain ⟨ta, tc, rfl, hb, _⟩ := ho.bytes
 have ctl : w.cell? ⟨sb, 4, none⟩ = some (.slice ta tl.length tc) := hst.cell 4 rfl
 go_enter Tryz.func113, Tryz.ntmps113
 go_wp2_with (first | (go_at_call 177; refine (made_any hst).mono ?_; rintro e w' ⟨rfl, rfl⟩) | (go_at_call 173; refine (Clone_any _ _ _ tl _ hb (by omega)).mono ?_; rintro e w2 ⟨v2, rfl, ho2, hf2⟩))
 go_ret
 exact ⟨v2, rfl, ho2, hf2⟩
@[go_sem] theorem run_store_fv (k : Nat) (x y : Array Value) (w : World) (a : Addr) (md : Mode) : (store a (.func (.func k) x y) md).run Tryz.prog w = stored Tryz.prog w a (.func (.func k) x y) md := run_store Tryz.prog w a _ md rfl
end Go.Proofs.YtidlpihoafnobaaGreat.StM32
namespace Go.Proofs.YtidlpihoafnobaaGreat.StM32
set_option maxRecDepth 100000
open Go.RowKit
structure Live (w0 w : World) (sb size : Nat) (f s : ST) (q : Nat) (tl : Bytes) (lo : BitVec 64) (tv : Value) : Prop where
 st : StreamAt w sb size f s q tv lo
 ow : Owns w w0.heap.size tv tl
 ge : w0.heap.size ≤ sb
 fr : Fr No w0 w
theorem own_lt {w : World} {base : Nat} {v : Value} {l : Bytes} (h : Owns w base v l) {x : Nat} (hx : v.ownBlock = some x) : x < w.heap.size := by
 obtain ⟨a, c, rfl, _, hb⟩ := h.bytes
 cases a with
 | none => simp [Value.ownBlock] at hx
 | some y => simp [Value.ownBlock] at hx; have := (hb y rfl).2; omega
section
variable {w0 w w' : World} {sb size : Nat} {f s : ST} {q : Nat} {tl : Bytes} {lo : BitVec 64} {tv : Value}
theorem Live.lt (h : Live w0 w sb size f s q tl lo tv) : ∀ x, Foot sb tv x → x < w.heap.size := fun x hx => by
 rcases hx with rfl | hx
 · exact h.st.lt
 · exact own_lt h.ow hx
theorem Live.keep {F : Nat → Prop} (h : Live w0 w sb size f s q tl lo tv) (k : Fr F w w') (hF : ∀ x, F x → ¬ Foot sb tv x) (hA : ∀ x, F x → w0.heap.size ≤ x) : Live w0 w' sb size f s q tl lo tv :=
 ⟨h.st.fr k (fun g => hF _ g (.inl rfl)), h.ow.fr k (fun x hx g => hF x g (.inr hx)), h.ge, h.fr.trans k (fun x hx => .inr (hA x hx))⟩
theorem Live.no (h : Live w0 w sb size f s q tl lo tv) (k : Fr No w w') : Live w0 w' sb size f s q tl lo tv := h.keep k (fun _ g => g.elim) (fun _ g => g.elim)
theorem Live.drew (h : Live w0 w sb size f s q tl lo tv) : Live w0 w.drew sb size f s q tl lo tv := h.no (Fr.refl No w).drew
theorem Live.con (h : Live w0 w sb size f s q tl lo tv) : Keeps w (Foot sb tv) := fun x o ho hc g => by
 rcases g with rfl | g
 · obtain ⟨cs, T, e, hT⟩ := hc
   have hst := h.st
   unfold StreamAt at hst
   rw [hst] at ho
   rw [e] at ho
   simp at ho
   rw [← ho.2] at hT
   exact absurd hT (by decide)
 · exact Keeps.own h.ow x o ho hc g
def Sep (sb : Nat) (tv : Value) (sb' : Nat) (tv' : Value) : Prop := ∀ x, Foot sb tv x → ¬ Foot sb' tv' x
theorem Sep.symm {sb sb' : Nat} {tv tv' : Value} (h : Sep sb tv sb' tv') : Sep sb' tv' sb tv := fun x h1 h2 => h x h2 h1
end
end Go.Proofs.YtidlpihoafnobaaGreat.StM32
namespace Go.Proofs.YtidlpihoafnobaaGreat.StM32
set_option maxRecDepth 100000
open Go.RowKit
def wordF (k : BitVec 32) : BitVec 32 := rotl32 (k * 3432918353#32) 15 * 461845907#32
def stepG (s : ST) (l : Bytes) : ST := rotl32 (s ^^^ wordF ((le (l.take 4)).setWidth 32)) 13 * 5#32 + 3864292196#32
def endF (s : ST) (l : Bytes) (lo : BitVec 64) : BitVec 32 := fmix32 (s ^^^ wordF ((le (l.take 4)).setWidth 32) ^^^ lo.setWidth 32)
def firstF (sd : BitVec 32) : ST := sd
def oneF (sd : BitVec 32) (l : Bytes) : BitVec 32 := endF (foldF stepG 4 (firstF sd) l).1 (foldF stepG 4 (firstF sd) l).2 (BitVec.ofNat 64 l.length)
theorem word_any (k : BitVec 32) (w : World) : Calls Tryz.prog 174 #[.int .u32 (W32 k)] w (Gives (.int .u32 (W32 (wordF k))) w) := by
 go_enter Tryz.func174, Tryz.ntmps174
 go_wp2_with (go_at_call 176; refine (Rot32_any _ _ _).mono ?_; rintro e w' ⟨rfl, rfl⟩)
 go_ret
 exact ⟨rfl, rfl⟩
theorem refWord_any (k : BitVec 32) (w : World) : Calls Tryz.prog 88 #[.int .u32 (W32 k)] w (Gives (.int .u32 (W32 (wordF k))) w) := by
 go_enter Tryz.func88, Tryz.ntmps88
 go_wp2_with (go_at_call 95; refine (refRot32_any _ _ _ (by omega) (by omega)).mono ?_; rintro e w' ⟨rfl, rfl⟩)
 go_ret
 exact ⟨rfl, rfl⟩
set_option maxHeartbeats 400000 in
theorem step_any (s : ST) (a : Option Addr) (n c : Nat) (l : Bytes) (w : World) (hb : IsBytes w a n c l) (hl : l.length = 4) :
 Calls Tryz.prog 108 #[.agg #[], .int .u32 (W32 s), .slice a n c] w (GivesS (stepG s l) w) := by
 have e : l.take 4 = l.take 8 := by rw [List.take_of_length_le (by omega), List.take_of_length_le (by omega)]
 have HE := Lib.hid e
 have hb1 := hb.no ((Fr.refl No w).alloc (.cells #[] 138))
 clear hl hb e
 unfold stepG
 rw [HE.out]
 clear HE
 go_enter Tryz.func108, Tryz.ntmps108
 go_wp2_with fail
 refine (Go.Proofs.YtidlpihoafnobaaGreat.Tail_any _ _ _ l _ hb1).mono ?_
 rintro e w' ⟨rfl, rfl⟩
 go_wp2_with fail
 refine (word_any _ _).mono ?_
 rintro e w' ⟨rfl, rfl⟩
 go_wp2_with fail
 refine (Rot32_any _ _ _).mono ?_
 rintro e w' ⟨rfl, rfl⟩
 go_wp2_with fail
 go_ret
 exact ⟨rfl, (Fr.refl No w).alloc _⟩
theorem steps_any : Hid (Steps (fun _ => True) stepG 4 0) := Lib.hid (fun w s a n c l _ hb hl => step_any s a n c l w hb hl)
theorem xor_word0 (s : BitVec 32) : s ^^^ wordF 0#32 = s := by
 have : wordF 0#32 = 0#32 := by decide
 rw [this]; simp
set_option maxHeartbeats 400000 in
theorem end_any (s : ST) (a : Option Addr) (n c : Nat) (l : Bytes) (lo : BitVec 64) (w : World) (hb : IsBytes w a n c l) (hl : l.length < 4) :
 Calls Tryz.prog 109 #[.agg #[], .int .u32 (W32 s), .slice a n c, .int .u64 (W64 lo)] w (GivesNew (.int .u32 (W32 (endF s l lo))) w) := by
 have e : l.take 4 = l.take 8 := by rw [List.take_of_length_le (by omega), List.take_of_length_le (by omega)]
 have hb1 := hb.no ((Fr.refl No w).alloc (.cells #[] 138))
 have hn := hb.1
 unfold endF
 rcases Nat.eq_zero_or_pos n with h0 | h0
 · subst h0
   obtain rfl : l = [] := List.eq_nil_of_length_eq_zero hn
   have e0 : (le (List.take 4 ([] : Bytes))).setWidth 32 = 0#32 := rfl
   rw [e0, xor_word0]
   clear hn hb1 hb hl e e0
   go_enter Tryz.func109, Tryz.ntmps109
   go_wp2_with fail
   refine (Fmix32_any _ _).mono ?_
   rintro e w' ⟨rfl, rfl⟩
   go_wp2_with fail
   go_ret
   exact ⟨rfl, (Fr.refl No w).alloc _⟩
 · have i1 : (0 : Int) < (n : Int) := by omega
   have HE := Lib.hid e
   clear hn hb hl e
   rw [HE.out]
   clear HE
   go_enter Tryz.func109, Tryz.ntmps109
   go_wp2_with fail
   refine (Go.Proofs.YtidlpihoafnobaaGreat.Tail_any _ _ _ l _ hb1).mono ?_
   rintro e w' ⟨rfl, rfl⟩
   go_wp2_with fail
   refine (word_any _ _).mono ?_
   rintro e w' ⟨rfl, rfl⟩
   go_wp2_with fail
   refine (Fmix32_any _ _).mono ?_
   rintro e w' ⟨rfl, rfl⟩
   go_wp2_with fail
   go_ret
   exact ⟨rfl, (Fr.refl No w).alloc _⟩
def lanesV (s : ST) : Value := .agg #[.int .u64 (W64 (s.setWidth 64)), .int .u64 0, .int .u64 0, .int .u64 0]
def GivesLanes (a : Option Addr) (n c : Nat) (l : Bytes) (r : ST × Bytes) (w : World) (e : Ending) (w' : World) : Prop :=
 ∃ a' n' c', e = .returned (.tuple #[lanesV r.1, .slice a' n' c']) ∧ IsBytes w' a' n' c' r.2 ∧ (∀ w2, IsBytes w2 a n c l → IsBytes w2 a' n' c' r.2) ∧ Fr No w w'
set_option maxHeartbeats 600000 in
theorem refFrom_any (x0 : BitVec 64) (s : ST) (v1 v2 v3 : Value) (a : Option Addr) (n c : Nat) (l : Bytes) (w : World) (hs : Hid (x0.setWidth 32 = s)) (h : IsBytes w a n c l) (hn : n ≤ 1099511627776) :
 Calls Tryz.prog 82 #[.agg #[.int .u64 (W64 x0), v1, v2, v3], .slice a n c] w (GivesLanes a n c l (foldF stepG 4 s l) w) := by
 obtain ⟨r, hr⟩ : ∃ r, r = foldF stepG 4 s l := ⟨_, rfl⟩
 rw [← hr]
 have hF : Fr No w ((w.alloc (.cells #[.int .u64 (W64 x0), v1, v2, v3] 49)).alloc (.cells #[.int .u64 0, .int .u64 0, .int .u64 0, .int .u64 0] 49)) := ((Fr.refl No w).alloc _).alloc _
 have HR := Lib.hid hr
 clear hr
 go_enter Tryz.func82, Tryz.ntmps82
 go_wp2
 rw [hs.out]
 go_loop [1, 6] (fun v u => ∃ m a' c' l' s', v = .slice a' m c' ∧ u = .int .u32 (W32 s') ∧ IsBytes w a' m c' l' ∧ (∀ w2, IsBytes w2 a n c l → IsBytes w2 a' m c' l') ∧ foldF stepG 4 s' l' = r) (fun v _ => match v with | .slice _ m _ => m | _ => 0)
 case atStart => exact ⟨n, a, c, l, s, rfl, rfl, h, fun _ h => h, HR.out.symm⟩
 case round =>
  obtain ⟨m, a', c', l', s', rfl, rfl, hb, hst, hr'⟩ := hrel
  have hlen := Lib.hid hb.1
  have hc : m ≤ c' := hb.2.1
  have hc2 : c' ≤ 9223372036854775807 := hb.2.2.1
  by_cases hlt : 4 ≤ m
  · have i1 : (4 : Int) ≤ (m : Int) := by omega
    have i2 : (4 : Int) ≤ (c' : Int) := by omega
    have hb2 := hb.no hF
    go_wp2_with fail
    refine (refNum_any _ _ _ l' 0 4 _ hb2 (by omega) (by omega) (by omega) (by omega)).mono ?_
    rintro e w' ⟨rfl, rfl⟩
    clear hb2
    go_wp2_with fail
    refine (refWord_any _ _).mono ?_
    rintro e w' ⟨rfl, rfl⟩
    go_wp2_with fail
    refine (refRot32_any _ _ _ (by omega) (by omega)).mono ?_
    rintro e w' ⟨rfl, rfl⟩
    have hcut := hb.cut_to_end 4 (n' := m - 4) (c' := c' - 4) hlt rfl rfl
    go_wp2_with fail
    refine ⟨⟨m - 4, _, _, _, stepG s' (l'.take 4), rfl, congrArg (fun z => Value.int .u32 (W32 z)) ?_, hcut, fun w2 h2 => (hst w2 h2).cut_to_end 4 hlt rfl rfl, ?_⟩, by simp; omega⟩
    · unfold stepG; simp [List.take_take]
    · rw [← hr']
      exact (foldF_step (by omega) (by rw [hlen.out]; exact hlt)).symm
  · have i1 : (m : Int) < 4 := by omega
    have hsh : foldF stepG 4 s' l' = (s', l') := foldF_short (by rw [hlen.out]; omega)
    have HS := Lib.hid hsh
    clear hsh
    go_wp2_with fail
    have hR := heap_alloc2_new w (.cells #[.int .u64 (W64 x0), v1, v2, v3] 49) (.cells #[.int .u64 (W64 (s'.setWidth 64)), .int .u64 0, .int .u64 0, .int .u64 0] 49)
    have hF2 : Fr No w ((w.alloc (.cells #[.int .u64 (W64 x0), v1, v2, v3] 49)).alloc (.cells #[.int .u64 (W64 (s'.setWidth 64)), .int .u64 0, .int .u64 0, .int .u64 0] 49)) := ((Fr.refl No w).alloc _).alloc _
    generalize ((w.alloc (.cells #[.int .u64 (W64 x0), v1, v2, v3] 49)).alloc (.cells #[.int .u64 (W64 (s'.setWidth 64)), .int .u64 0, .int .u64 0, .int .u64 0] 49)) = w3 at hR hF2 ⊢
    have cd0 : w3.cell? ⟨w.heap.size + 1, 0, none⟩ = some (.int .u64 (W64 (s'.setWidth 64))) := by rw [cell_of_row w3 _ 0 _ _ _ hR]; rfl
    have cd1 : w3.cell? ⟨w.heap.size + 1, 1, none⟩ = some (.int .u64 0) := by rw [cell_of_row w3 _ 1 _ _ _ hR]; rfl
    have cd2 : w3.cell? ⟨w.heap.size + 1, 2, none⟩ = some (.int .u64 0) := by rw [cell_of_row w3 _ 2 _ _ _ hR]; rfl
    have cd3 : w3.cell? ⟨w.heap.size + 1, 3, none⟩ = some (.int .u64 0) := by rw [cell_of_row w3 _ 3 _ _ _ hR]; rfl
    refine bodyPost_ret (v := .tuple #[lanesV s', .slice a' m c']) (by simp [results, Tryz.results82, go_sem, cd0, cd1, cd2, cd3, lanesV]) rfl ?_
    refine ⟨a', m, c', by rw [← hr', HS.out], ?_, ?_, hF2⟩
    · rw [← hr', HS.out]; exact hb.no hF2
    · rw [← hr', HS.out]; exact hst
set_option maxHeartbeats 400000 in
theorem refBlocks_any (sd : BitVec 32) (a : Option Addr) (n c : Nat) (l : Bytes) (w : World) (h : IsBytes w a n c l) (hn : n ≤ 1099511627776) :
 Calls Tryz.prog 39 #[.int .u32 (W32 sd), .slice a n c] w (GivesLanes a n c l (foldF stepG 4 (firstF sd) l) w) := by
 have hs : Hid (BitVec.setWidth 32 (BitVec.setWidth 64 sd) = firstF sd) := by show _ = _; unfold firstF; simp
 have h1 := h.no ((Fr.refl No w).alloc (.cells #[.int .u64 0, .int .u64 0, .int .u64 0, .int .u64 0] 49))
 generalize hr : foldF stepG 4 (firstF sd) l = r
 have HR := Lib.hid hr
 clear hr
 go_enter Tryz.func39, Tryz.ntmps39
 go_wp2_with fail
 refine (refFrom_any _ (firstF sd) _ _ _ _ _ _ l _ hs h1 hn).mono ?_
 rintro e w2 ⟨a', n', c', rfl, hb, hst, hf⟩
 rw [HR.out] at hb hst ⊢
 have hR := (row4_new w 49 (.int .u64 0) (.int .u64 0) (.int .u64 0) (.int .u64 0)).no hf
 have hF := ((Fr.refl No w).alloc (.cells #[.int .u64 0, .int .u64 0, .int .u64 0, .int .u64 0] 49)).no hf
 clear hf h1
 have cr0 := hR.c0
 have cr1 := hR.c1
 have cr2 := hR.c2
 have cr3 := hR.c3
 have fr0 := hR.fz 0
 have fr1 := hR.fz 1
 have fr2 := hR.fz 2
 have fr3 := hR.fz 3
 unfold lanesV
 go_wp2_with fail
 have hF3 := fr_put4 w2 w.heap.size (.int .u64 (W64 (r.1.setWidth 64))) (.int .u64 0) (.int .u64 0) (.int .u64 0)
 have hR3 := row_put4 hR (.int .u64 (W64 (r.1.setWidth 64))) (.int .u64 0) (.int .u64 0) (.int .u64 0)
 clear cr0 cr1 cr2 cr3 fr0 fr1 fr2 fr3
 generalize (((w2.setCell ⟨w.heap.size, 0, none⟩ (.int .u64 (W64 (r.1.setWidth 64)))).setCell ⟨w.heap.size, 1, none⟩ (.int .u64 0)).setCell ⟨w.heap.size, 2, none⟩ (.int .u64 0)).setCell ⟨w.heap.size, 3, none⟩ (.int .u64 0) = w3 at hF3 hR3 ⊢
 have cd0 := hR3.c0
 have cd1 := hR3.c1
 have cd2 := hR3.c2
 have cd3 := hR3.c3
 have hFe : Fr No w w3 := hF.trans hF3 (fun x hx => .inr (by omega))
 refine bodyPost_ret (v := .tuple #[lanesV r.1, .slice a' n' c']) (by simp [results, Tryz.results39, go_sem, cd0, cd1, cd2, cd3, lanesV]) rfl ?_
 exact ⟨a', n', c', rfl, (hst _ (h.no hFe)), hst, hFe⟩
end Go.Proofs.YtidlpihoafnobaaGreat.StM32
namespace Go.Proofs.YtidlpihoafnobaaGreat
set_option maxRecDepth 100000
open Go.RowKit
@[go_sem] theorem W64_mod' (x y : BitVec 64) : W64 x % W64 y = W64 (x % y) := by
 simp only [W64, BitVec.toNat_umod]; rfl
@[go_sem] theorem W64_tmod' (x y : BitVec 64) : (W64 x).tmod (W64 y) = W64 (x % y) := by
 rw [Int.tmod_eq_emod_of_nonneg (W64_nn x), W64_mod']
@[go_sem] theorem W64_bne (x y : BitVec 64) : (W64 x != W64 y) = (x != y) := by simp only [bne, W64_beq]
@[go_sem] theorem W32_bne (x y : BitVec 32) : (W32 x != W32 y) = (x != y) := by simp only [bne, W32_beq]
@[go_sem] theorem W64_bne_lit (x : BitVec 64) (n : Nat) (h : n < 18446744073709551616) : (W64 x != no_index (OfNat.ofNat n : Int)) = (x != BitVec.ofNat 64 n) := by simp only [bne, W64_beq_lit x n h]
@[go_sem] theorem W32_bne_lit (x : BitVec 32) (n : Nat) (h : n < 4294967296) : (W32 x != no_index (OfNat.ofNat n : Int)) = (x != BitVec.ofNat 32 n) := by simp only [bne, W32_beq_lit x n h]
end Go.Proofs.YtidlpihoafnobaaGreat
namespace Go.Proofs.YtidlpihoafnobaaGreat
set_option maxRecDepth 100000
open Go.RowKit
set_option maxHeartbeats 400000 in
@[go_sem] theorem eq_arr4 (a0 a1 a2 a3 b0 b1 b2 b3 : Int) (w : World) : (Op.equalIn 10000 49 (.agg #[.int .u64 a0, .int .u64 a1, .int .u64 a2, .int .u64 a3]) (.agg #[.int .u64 b0, .int .u64 b1, .int .u64 b2, .int .u64 b3])).run Tryz.prog w = .ok (a0 == b0 && a1 == b1 && a2 == b2 && a3 == b3) w := by
 have u3 := Tryz.underlying22
 rw [show (10000 : Nat) = 9999 + 1 from rfl, Op.equalIn]
 simp only [Sem.run_bind, run_underlying Tryz.underlying49, Result.andThen_ok]
 simp only [Std.Legacy.Range.forIn_eq_forIn_range', Std.Legacy.Range.size, Nat.sub_zero, Nat.add_sub_cancel, Nat.div_one, List.range'_succ, List.range'_zero, List.forIn_cons, List.forIn_nil]
 go_simp
 by_cases h0 : a0 = b0 <;> by_cases h1 : a1 = b1 <;> by_cases h2 : a2 = b2 <;> by_cases h3 : a3 = b3 <;> simp [h0, h1, h2, h3]
end Go.Proofs.YtidlpihoafnobaaGreat
namespace Go.Proofs.YtidlpihoafnobaaGreat.StM32
set_option maxRecDepth 100000
open Go.RowKit
structure HLive (w0 w : World) (hb sb : Nat) (sd : BitVec 32) (s : ST) (tl : Bytes) (lo : BitVec 64) (tv : Value) : Prop where
 on : Live w0 w sb 4 (firstF sd) s 0 tl lo tv
 hc : w.heap[hb]? = some (.cells #[.pointer (some ⟨sb, 0, none⟩)] 145 (0, 0))
 ge : w0.heap.size ≤ hb
 ne : ¬ Foot sb tv hb
 tlen : tl.length < 4
def HFoot (hb sb : Nat) (tv : Value) (x : Nat) : Prop := x = hb ∨ Foot sb tv x
section
variable {w0 w w' : World} {hb sb : Nat} {sd : BitVec 32} {s : ST} {tl : Bytes} {lo : BitVec 64} {tv : Value}
theorem HLive.lt (h : HLive w0 w hb sb sd s tl lo tv) : ∀ x, HFoot hb sb tv x → x < w.heap.size := fun x hx => by
 rcases hx with rfl | hx
 · exact (Array.getElem?_eq_some_iff.1 h.hc).1
 · exact h.on.lt x hx
theorem HLive.fr (h : HLive w0 w hb sb sd s tl lo tv) : Fr No w0 w := h.on.fr
theorem HLive.keep {F : Nat → Prop} (h : HLive w0 w hb sb sd s tl lo tv) (k : Fr F w w') (hF : ∀ x, F x → ¬ HFoot hb sb tv x) (hA : ∀ x, F x → w0.heap.size ≤ x) : HLive w0 w' hb sb sd s tl lo tv :=
 ⟨h.on.keep k (fun x hx g => hF x hx (.inr g)) hA, k.heap (fun g => hF _ g (.inl rfl)) h.hc, h.ge, h.ne, h.tlen⟩
theorem HLive.no (h : HLive w0 w hb sb sd s tl lo tv) (k : Fr No w w') : HLive w0 w' hb sb sd s tl lo tv := h.keep k (fun _ g => g.elim) (fun _ g => g.elim)
theorem HLive.cell (h : HLive w0 w hb sb sd s tl lo tv) : w.cell? ⟨hb, 0, none⟩ = some (.pointer (some ⟨sb, 0, none⟩)) := by rw [cell_of_row w hb 0 _ _ _ h.hc]; rfl
end
def GivesHash (w0 w : World) (sd : BitVec 32) (e : Ending) (w' : World) : Prop := ∃ hb sb, e = .returned (.pointer (some ⟨hb, 0, none⟩)) ∧ w.heap.size ≤ hb ∧ w.heap.size ≤ sb ∧ HLive w0 w' hb sb sd (firstF sd) [] 0#64 (.slice none 0 0) ∧ Fr No w w'
set_option maxHeartbeats 400000 in
theorem New_h (sd : BitVec 32) (w0 w : World) (hf : Fr No w0 w) : Calls Tryz.prog 60 #[.int .u32 (W32 sd)] w (GivesHash w0 w sd) := by
 have hW1 := (Fr.refl No w).alloc (.cells #[] 138)
 go_enter Tryz.func60, Tryz.ntmps60
 go_wp2_with fail
 refine (New_any 4 sd 0 _ (by omega) (by omega)).mono ?_
 rintro e w2 ⟨sb, rfl, hge, hlt, hst, hfr⟩
 have hz : sizeOk 4 = ((4 : Nat) : Int) := rfl
 rw [hz] at hst
 have hW := hW1.no hfr
 have g0 := hf.size
 have g1 := hW1.size
 have g2 := hfr.size
 clear hz
 go_wp2_with fail
 go_ret
 have h3 : Fr No w2 (w2.alloc (.cells #[.pointer (some ⟨sb, 0, none⟩)] 145)) := (Fr.refl No w2).alloc _
 refine ⟨w2.heap.size, sb, rfl, by omega, by omega, ⟨⟨hst.fr h3 (fun h => h), Owns.nil _ _, by omega, (hf.no hW).no h3⟩, heap_alloc_new w2 _, by omega, ?_, by simp⟩, hW.no h3⟩
 rintro (g | g)
 · omega
 · simp [Value.ownBlock] at g
end Go.Proofs.YtidlpihoafnobaaGreat.StM32
namespace Go.Proofs.YtidlpihoafnobaaGreat
set_option maxRecDepth 100000
open Go.RowKit
def IsInts (w : World) (a : Option Addr) (n c : Nat) (l : List Int) : Prop :=
 l.length = n ∧ n ≤ c ∧ c ≤ 9223372036854775807 ∧ (a = none → c = 0) ∧ ∀ i, i < n → (∃ b off, a = some ⟨b, off, none⟩ ∧ w.cell? ⟨b, off + i, none⟩ = some (.int .i64 (l.getD i 0))) ∧ -9223372036854775808 ≤ l.getD i 0 ∧ l.getD i 0 ≤ 9223372036854775807
theorem IsInts.nil (w : World) : IsInts w none 0 0 [] := ⟨rfl, Nat.le_refl _, by omega, fun _ => rfl, fun i hi => absurd hi (Nat.not_lt_zero _)⟩
theorem IsInts.no {w w' : World} {a : Option Addr} {n c : Nat} {l : List Int} (h : IsInts w a n c l) (k : Fr No w w') : IsInts w' a n c l :=
 ⟨h.1, h.2.1, h.2.2.1, h.2.2.2.1, fun i hi => by
  obtain ⟨⟨b, off, e, hc⟩, h1, h2⟩ := h.2.2.2.2 i hi
  exact ⟨⟨b, off, e, k.cell (p := ⟨b, off + i, none⟩) (fun h => h) hc⟩, h1, h2⟩⟩
def PieceOf (a : Option Addr) (n c : Nat) (l : Bytes) (v : Value) (x : Bytes) : Prop := ∃ a' n' c', v = .slice a' n' c' ∧ n' ≤ n ∧ ∀ w2, IsBytes w2 a n c l → IsBytes w2 a' n' c' x
def OwnsSl (w : World) (base : Nat) (v : Value) (vs : List Value) : Prop := w.ownsRow base 25 1 v vs.length vs
theorem OwnsSl.slice {w : World} {base : Nat} {v : Value} {vs : List Value} (h : OwnsSl w base v vs) : ∃ a c, v = .slice a vs.length c ∧ vs.length ≤ c ∧ c ≤ 9223372036854775807 ∧ (∀ i, i < vs.length → ∃ g, a = some ⟨g, 0, none⟩ ∧ base ≤ g ∧ w.cell? ⟨g, i, none⟩ = some (vs.getD i undef)) := by
 rcases h.2 with ⟨rfl, hn⟩ | ⟨g, cap, cur, rfl, hb, hg, hnc, hcm, hcs, ht⟩
 · exact ⟨none, 0, by rw [hn], by omega, by omega, fun i hi => by omega⟩
 · refine ⟨_, _, rfl, hnc, by unfold maxLen at hcm; omega, fun i hi => ⟨g, rfl, hb, ?_⟩⟩
   rw [cell_of_row w g i cur _ _ hg]
   have h1 : cur.toList[i]? = vs[i]? := by
    rw [← ht, Nat.mul_one, List.getElem?_take, if_pos hi]
   rw [← Array.getElem?_toList, h1, List.getD_eq_getElem?_getD, List.getElem?_eq_getElem hi]; rfl
theorem OwnsSl.no {w w' : World} {base : Nat} {v : Value} {vs : List Value} (h : OwnsSl w base v vs) (k : Fr No w w') : OwnsSl w' base v vs := by
 refine ⟨h.1, ?_⟩
 rcases h.2 with hn | ⟨g, cap, cur, e, hb, hg, r⟩
 · exact .inl hn
 · exact .inr ⟨g, cap, cur, e, hb, k.heap (fun h => h) hg, r⟩
theorem OwnsSl.lt {w : World} {base : Nat} {v : Value} {vs : List Value} (h : OwnsSl w base v vs) : ∀ x, v.ownBlock = some x → base ≤ x := fun x hx => (World.ownsRow.lt h x hx).1
theorem PieceOf.head {a : Option Addr} {n c : Nat} {l : Bytes} {a' : Option Addr} {m' c' : Nat} {l' : Bytes} (h : PieceOf a n c l (.slice a' m' c') l') (z : Nat) (hz : z ≤ m') (hz2 : m' ≤ c') : PieceOf a n c l (.slice (subAddr a' 0 c' 1) z c') (l'.take z) := by
 obtain ⟨a2, m2, c2, e, hle, hp⟩ := h
 cases e
 exact ⟨_, _, _, rfl, by omega, fun w2 h2 => (hp w2 h2).head z c' hz (by omega) (Nat.le_refl _) rfl rfl⟩
theorem PieceOf.rest {a : Option Addr} {n c : Nat} {l : Bytes} {a' : Option Addr} {m' c' : Nat} {l' : Bytes} (h : PieceOf a n c l (.slice a' m' c') l') (z : Nat) (hz : z ≤ m') : PieceOf a n c l (.slice (subAddr a' z c' 1) (m' - z) (c' - z)) (l'.drop z) := by
 obtain ⟨a2, m2, c2, e, hle, hp⟩ := h
 cases e
 exact ⟨_, _, _, rfl, by omega, fun w2 h2 => (hp w2 h2).cut_to_end z hz rfl rfl⟩
end Go.Proofs.YtidlpihoafnobaaGreat
namespace Go.Proofs.YtidlpihoafnobaaGreat.StM32
set_option maxRecDepth 100000
open Go.RowKit
def HAll (w0 w : World) (hb sb : Nat) (sd : BitVec 32) (d : Bytes) (tv : Value) : Prop := HLive w0 w hb sb sd (foldF stepG 4 (firstF sd) d).1 (foldF stepG 4 (firstF sd) d).2 (BitVec.ofNat 64 d.length) tv
theorem HAll.no {w' : World} {w0 w : World} {hb sb : Nat} {sd : BitVec 32} {d : Bytes} {tv : Value} (h : HAll w0 w hb sb sd d tv) (k : Fr No w w') : HAll w0 w' hb sb sd d tv := HLive.no h k
theorem HAll.keep {w' : World} {w0 w : World} {hb sb : Nat} {sd : BitVec 32} {d : Bytes} {tv : Value} {F : Nat → Prop} (h : HAll w0 w hb sb sd d tv) (k : Fr F w w') (hF : ∀ x, F x → ¬ HFoot hb sb tv x) (hA : ∀ x, F x → w0.heap.size ≤ x) : HAll w0 w' hb sb sd d tv := HLive.keep h k hF hA
theorem HAll.fr {w0 w : World} {hb sb : Nat} {sd : BitVec 32} {d : Bytes} {tv : Value} (h : HAll w0 w hb sb sd d tv) : Fr No w0 w := HLive.fr h
theorem HAll.lt {w0 w : World} {hb sb : Nat} {sd : BitVec 32} {d : Bytes} {tv : Value} (h : HAll w0 w hb sb sd d tv) : ∀ x, HFoot hb sb tv x → x < w.heap.size := HLive.lt h
set_option maxHeartbeats 400000 in
theorem One_any (sd : BitVec 32) (a : Option Addr) (n c : Nat) (l : Bytes) (w : World) (h : IsBytes w a n c l) (hn : n ≤ 1099511627776) :
 Calls Tryz.prog 59 #[.int .u32 (W32 sd), .slice a n c] w (GivesNew (.int .u32 (W32 (oneF sd l))) w) := by
 have hlen := Lib.hid h.1
 have q4 := foldF_lt (F := stepG) (size := 4) (by omega) (firstF sd) l
 have h1 := h.no ((Fr.refl No w).alloc (.cells #[] 138))
 unfold oneF
 rw [hlen.out]
 generalize hr : foldF stepG 4 (firstF sd) l = r at q4 ⊢
 have HR := Lib.hid hr
 clear hr
 go_enter Tryz.func59, Tryz.ntmps59
 go_wp2_with fail
 refine (Fold_any (fun _ => True) stepG 4 4 sd 0 _ _ _ l _ (fun _ _ => trivial) steps_any (by omega) (by omega) rfl h1 hn).mono ?_
 rw [show foldF stepG 4 sd l = r from HR.out]
 rintro e w2 ⟨v, rfl, ho, hf2⟩
 obtain ⟨a2, c2, rfl, hb2, _⟩ := ho.bytes
 have hF2 := ((Fr.refl No w).alloc (.cells #[] 138)).no hf2
 go_wp2_with fail
 refine (end_any r.1 _ _ _ r.2 _ _ hb2 q4).mono ?_
 rintro e w3 ⟨rfl, hf3⟩
 go_wp2_with fail
 go_ret
 exact ⟨rfl, hF2.no hf3⟩
end Go.Proofs.YtidlpihoafnobaaGreat.StM32
