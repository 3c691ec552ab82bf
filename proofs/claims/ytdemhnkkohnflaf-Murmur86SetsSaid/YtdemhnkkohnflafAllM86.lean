/- murmur86: a hash behind bytes; One; awake. -/
import Derived.Test.YtdemhnkkohnflafHashM86
import Derived.Test.YtdemhnkkohnflafPieces
import Derived.Test.YtdemhnkkohnflafEqU
namespace Go.Proofs.Ytdemhnkkohnflaf.StM86
set_option linter.unusedVariables false
set_option linter.unusedSimpArgs false
open Go.RowKit

/-- In w lies a hash to which the bytes d were written. -/
def HAll (w0 w : World) (hb sb : Nat) (sd : BitVec 32) (d : Bytes) (tv : Value) : Prop := HLive w0 w hb sb sd (foldF stepG 16 (firstF sd) d).1 (foldF stepG 16 (firstF sd) d).2 (BitVec.ofNat 64 d.length) tv
theorem HAll.no {w' : World} {w0 w : World} {hb sb : Nat} {sd : BitVec 32} {d : Bytes} {tv : Value} (h : HAll w0 w hb sb sd d tv) (k : Fr No w w') : HAll w0 w' hb sb sd d tv := HLive.no h k
theorem HAll.keep {w' : World} {w0 w : World} {hb sb : Nat} {sd : BitVec 32} {d : Bytes} {tv : Value} {F : Nat → Prop} (h : HAll w0 w hb sb sd d tv) (k : Fr F w w') (hF : ∀ x, F x → ¬ HFoot hb sb tv x) (hA : ∀ x, F x → w0.heap.size ≤ x) : HAll w0 w' hb sb sd d tv := HLive.keep h k hF hA
theorem HAll.fr {w0 w : World} {hb sb : Nat} {sd : BitVec 32} {d : Bytes} {tv : Value} (h : HAll w0 w hb sb sd d tv) : Fr No w0 w := HLive.fr h
theorem HAll.lt {w0 w : World} {hb sb : Nat} {sd : BitVec 32} {d : Bytes} {tv : Value} (h : HAll w0 w hb sb sd d tv) : ∀ x, HFoot hb sb tv x → x < w.heap.size := HLive.lt h
theorem HAll.above {w0 w : World} {hb sb : Nat} {sd : BitVec 32} {d : Bytes} {tv : Value} (h : HAll w0 w hb sb sd d tv) : ∀ x, HFoot hb sb tv x → w0.heap.size ≤ x := HLive.above h
theorem fold_nil (s : ST) : foldF stepG 16 s [] = (s, []) := foldF_short (by simp)
theorem HAll_nil {w0 w : World} {hb sb : Nat} {sd : BitVec 32} {tv : Value} (h : HLive w0 w hb sb sd (firstF sd) [] 0#64 tv) : HAll w0 w hb sb sd [] tv := by
  unfold HAll; rw [fold_nil]; exact h
theorem New_all (sd : BitVec 32) (w0 w : World) (hf : Fr No w0 w) : Calls Try.prog 10 #[.int .u32 (W32 sd)] w
    (fun e w' => ∃ hb sb, e = .returned (.pointer (some ⟨hb, 0, none⟩)) ∧ w.heap.size ≤ hb ∧ w.heap.size ≤ sb ∧ HAll w0 w' hb sb sd [] (.slice none 0 0) ∧ Fr No w w') := by
  refine (New_h sd w0 w hf).mono ?_
  rintro e w' ⟨hb, sb, rfl, h1, h2, h3, h4⟩
  exact ⟨hb, sb, rfl, h1, h2, HAll_nil h3, h4⟩
/-- What a write leaves. -/
def AWrote (w0 : World) (hb sb : Nat) (sd : BitVec 32) (tv : Value) (d : Bytes) (w : World) (e : Ending) (w' : World) : Prop :=
  e = .returned (.tuple #[]) ∧ ∃ tv', HAll w0 w' hb sb sd d tv' ∧ Fr (Foot sb tv) w w' ∧ (tv'.ownBlock = tv.ownBlock ∨ ∀ x, tv'.ownBlock = some x → w.heap.size ≤ x)
theorem Write_all {w0 w : World} {hb sb : Nat} {sd : BitVec 32} {d : Bytes} {tv : Value} (h : HAll w0 w hb sb sd d tv) (a : Option Addr) (n c : Nat) (l : Bytes) (hy : IsBytes w a n c l) (hap : Apart (Foot sb tv) a n) (hn : n ≤ 1099511627776) :
    Calls Try.prog 13 #[.pointer (some ⟨hb, 0, none⟩), .slice a n c] w (AWrote w0 hb sb sd tv (d ++ l) w) := by
  refine (Write_h h a n c l hy hap hn).mono ?_
  rintro e w' ⟨rfl, tv', hH, h2, h3⟩
  refine ⟨rfl, tv', ?_, h2, h3⟩
  unfold HAll
  rw [foldF_append (by omega), List.length_append, hy.1, BitVec.ofNat_add]
  exact hH
theorem Sum_all {w0 w : World} {hb sb : Nat} {sd : BitVec 32} {d : Bytes} {tv : Value} (h : HAll w0 w hb sb sd d tv) : Calls Try.prog 11 #[.pointer (some ⟨hb, 0, none⟩)] w (GivesNew (.agg #[.int .u64 (W64 ((oneHi sd d))), .int .u64 (W64 ((oneLo sd d)))]) w) := Sum_h h
theorem Reset_all {w0 w : World} {hb sb : Nat} {sd : BitVec 32} {d : Bytes} {tv : Value} (h : HAll w0 w hb sb sd d tv) : Calls Try.prog 14 #[.pointer (some ⟨hb, 0, none⟩)] w (fun e w' => e = .returned (.tuple #[]) ∧ HAll w0 w' hb sb sd [] (.slice none 0 0) ∧ Fr (fun x => x = sb) w w') := by
  refine (Reset_h h).mono ?_
  rintro e w' ⟨rfl, hH, hf⟩
  exact ⟨rfl, HAll_nil hH, hf⟩
theorem Clone_all {w0 w : World} {hb sb : Nat} {sd : BitVec 32} {d : Bytes} {tv : Value} (h : HAll w0 w hb sb sd d tv) : Calls Try.prog 19 #[.pointer (some ⟨hb, 0, none⟩)] w
    (fun e w' => ∃ hb' sb' tv', e = .returned (.pointer (some ⟨hb', 0, none⟩)) ∧ HAll w0 w' hb' sb' sd d tv' ∧ Fr No w w' ∧ ∀ x, HFoot hb' sb' tv' x → w.heap.size ≤ x) := Clone_h h
set_option maxHeartbeats 400000 in
theorem One_any (sd : BitVec 32) (a : Option Addr) (n c : Nat) (l : Bytes) (w : World) (h : IsBytes w a n c l) (hn : n ≤ 1099511627776) :
    Calls Try.prog 8 #[.int .u32 (W32 sd), .slice a n c] w (GivesNew (.agg #[.int .u64 (W64 ((oneHi sd l))), .int .u64 (W64 ((oneLo sd l)))]) w) := by
  have hlen := Lib.hid h.1
  have q4 := foldF_lt (F := stepG) (size := 16) (by omega) (firstF sd) l
  unfold oneHi oneLo
  rw [hlen.out]
  generalize hr : foldF stepG 16 (firstF sd) l = r at q4 ⊢
  have HR := Lib.hid hr
  clear hr
  have hF0 : Fr No w (w.alloc (.cells #[.int .u64 0, .int .u64 0] 27)) := (Fr.refl No w).alloc _
  have hT0 : Row2 (w.alloc (.cells #[.int .u64 0, .int .u64 0] 27)) w.heap.size 27 (.int .u64 0) (.int .u64 0) := row2_new w _ _ _
  go_enter Try.func8, Try.ntmps8
  go_wp2_with fail
  have h1 := h.no hF0
  have hF1 := hF0
  have hT1 := hT0
  refine (Fold_any (fun _ => True) stepG 16 16 (firstF sd) 0 _ _ _ l _ (fun _ _ => trivial) steps_any (by omega) (by omega) rfl h1 hn).mono ?_
  rw [show foldF stepG 16 (firstF sd) l = r from HR.out]
  rintro e w2 ⟨v, rfl, ho, hf2⟩
  obtain ⟨a2, c2, rfl, hb2, _⟩ := ho.bytes
  have hF2 := hF1.no hf2
  have hT2 := hT1.no hf2
  go_wp2_with fail
  refine (end_any r.1 _ _ _ r.2 _ _ (hb2.no ((Fr.refl No _).alloc _))).mono ?_
  rintro e w3 ⟨rfl, hf3⟩
  have hF3 := (hF2.alloc _).no hf3
  have hT3 := (hT2.no ((Fr.refl No _).alloc _)).no hf3
  obtain ⟨z1, hz1⟩ : ∃ z, z = endHi r.1 r.2 (BitVec.ofNat 64 n) := ⟨_, rfl⟩
  obtain ⟨z2, hz2⟩ : ∃ z, z = endLo r.1 r.2 (BitVec.ofNat 64 n) := ⟨_, rfl⟩
  rw [← hz1, ← hz2]
  have HZ1 := Lib.hid hz1
  have HZ2 := Lib.hid hz2
  clear hz1 hz2
  have cr0 := hT3.c0
  have cr1 := hT3.c1
  have fr0 := hT3.fz 0
  have fr1 := hT3.fz 1
  go_wp2_with fail
  have hF9 := fr_put2 w3 (w.heap.size) (.int .u64 (W64 (z1))) (.int .u64 (W64 (z2)))
  have hR9 := row_put2 hT3 (.int .u64 (W64 (z1))) (.int .u64 (W64 (z2)))
  clear cr0 cr1 fr0 fr1
  generalize (w3.setCell ⟨w.heap.size, 0, none⟩ (.int .u64 (W64 (z1)))).setCell ⟨w.heap.size, 1, none⟩ (.int .u64 (W64 (z2))) = w9 at hF9 hR9 ⊢
  have cd0 := hR9.c0
  have cd1 := hR9.c1
  refine bodyPost_ret (v := .agg #[.int .u64 (W64 (z1)), .int .u64 (W64 (z2))]) (by simp [results, Try.results8, go_sem, cd0, cd1]) rfl ?_
  exact ⟨by rw [HZ1.out, HZ2.out], (hF3).trans hF9 (fun x hx => .inr (by omega))⟩
theorem tells_ex : ∃ f g e1 e2, Hid (f = oneHi ∧ g = oneLo ∧ e1 = endHi ∧ e2 = endLo) := ⟨_, _, _, _, Lib.hid ⟨rfl, rfl, rfl, rfl⟩⟩
set_option maxHeartbeats 400000 in
theorem awake_yes (w : World) : Calls Try.prog 7 #[] w (Yes w) := by
  go_enter Try.func7, Try.ntmps7
  go_wp2_with fail
  refine (New_all 0#32 w _ (Fr.refl No w)).mono ?_
  rintro e w1 ⟨hb, sb, rfl, _, _, hL, hf1⟩
  go_wp2_with fail
  refine (One_any 0#32 none 0 0 [] _ (IsBytes.nil _) (by omega)).mono ?_
  rintro e w2 ⟨rfl, hf2⟩
  have hL2 := hL.no hf2
  go_wp2_with fail
  refine (refOne_any 0#32 none 0 0 [] _ (IsBytes.nil _) (by omega)).mono ?_
  rintro e w3 ⟨rfl, hf3⟩
  have hL3 := hL2.no hf3
  go_wp2_with fail
  refine (Sum_all hL3).mono ?_
  rintro e w4 ⟨rfl, hf4⟩
  have hL4 := hL3.no hf4
  go_wp2_with fail
  refine (One_any 0#32 none 0 0 [] _ (IsBytes.nil _) (by omega)).mono ?_
  rintro e w5 ⟨rfl, hf5⟩
  have hL5 := hL4.no hf5
  go_wp2_with fail
  go_ret
  exact ⟨rfl, hL5.fr⟩
end Go.Proofs.Ytdemhnkkohnflaf.StM86
