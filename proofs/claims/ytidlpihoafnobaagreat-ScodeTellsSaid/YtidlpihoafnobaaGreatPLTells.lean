/- SealPlain Seal StrAny ScoTell LTells -/
import Derived.Test.YtidlpihoafnobaaGreatPStrHasherAx
import Derived.Test.YtidlpihoafnobaaGreatPStrAnyDx
import Derived.Test.YtidlpihoafnobaaGreatPStrNew
import Derived.Test.YtidlpihoafnobaaGreatPStrBlocks
set_option linter.unusedVariables false
set_option linter.unusedSimpArgs false
namespace Go.Proofs.YtidlpihoafnobaaGreat
set_option maxRecDepth 100000
def sumStep (h : BitVec 32) (x : BitVec 8) : BitVec 32 := fmix32 (h ^^^ x.setWidth 32) + 1#32
theorem sumStep_def (h : BitVec 32) (x : BitVec 8) : fmix32 (h ^^^ BitVec.setWidth 32 x) + 1#32 = sumStep h x := rfl
def sumF (l : Bytes) : BitVec 32 := l.foldl sumStep (BitVec.ofNat 32 l.length)
def sealF (l : Bytes) : Bytes := l ++ leb ((sumF l).setWidth 64) 4
theorem sealF_length (l : Bytes) : (sealF l).length = l.length + 4 := by unfold sealF; rw [List.length_append, leb_length]
end Go.Proofs.YtidlpihoafnobaaGreat
namespace Go.Proofs.YtidlpihoafnobaaGreat
set_option maxRecDepth 100000
open Go.RowKit
theorem narrow_len (n : Nat) : BitVec.setWidth 32 (BitVec.ofNat 64 n % 4294967296#64) = BitVec.ofNat 32 n := by
 apply BitVec.eq_of_toNat_eq
 rw [BitVec.toNat_setWidth, BitVec.toNat_umod, BitVec.toNat_ofNat, BitVec.toNat_ofNat, BitVec.toNat_ofNat, show (4294967296 : Nat) % 2 ^ 64 = 4294967296 from by decide, show (2 : Nat) ^ 64 = 18446744073709551616 from by decide, show (2 : Nat) ^ 32 = 4294967296 from by decide]
 omega
set_option maxHeartbeats 1000000 in
theorem Sum_any (a : Option Addr) (n c : Nat) (l : Bytes) (w : World) (h : IsBytes w a n c l) : Calls Tryz.prog 102 #[.slice a n c] w (Gives (.int .u32 (W32 (sumF l))) w) := by
 have hlen := Lib.hid h.1
 unfold sumF
 rw [hlen.out]
 generalize hr : l.foldl sumStep (BitVec.ofNat 32 n) = r
 have HR := Lib.hid hr
 clear hr
 have hc : n ≤ c := h.2.1
 have hc2 : c ≤ 9223372036854775807 := h.2.2.1
 go_enter Tryz.func102, Tryz.ntmps102
 go_wp2
 go_loop [3, 11] (fun u i => ∃ (k : Nat) (g : BitVec 32), k ≤ n ∧ i = .int .i64 k ∧ u = .int .u32 (W32 g) ∧ Hid ((l.drop k).foldl sumStep g = r)) (fun _ i => n - (intOf i).toNat)
 case atStart => exact ⟨0, _, by omega, rfl, rfl, HR⟩
 case round =>
  obtain ⟨k, g, hk, rfl, rfl, hg⟩ := hrel
  by_cases hkn : k < n
  · have i4 : (k : Int) < (n : Int) := by omega
    have hkl : k < l.length := by rw [hlen.out]; exact hkn
    obtain ⟨b, off, hbo, hcell⟩ := h.known (by omega)
    have hc0 := hcell k hkn
    have hd := Lib.hid (List.drop_eq_getElem_cons hkl)
    rw [hbo]
    clear hcell hbo
    go_wp2_with fail
    refine (Fmix32_any _ _).mono ?_
    rintro e w' ⟨rfl, rfl⟩
    go_wp2_with fail
    refine ⟨⟨k + 1, sumStep g (l[k]'hkl), by omega, rfl, ?_, ?_⟩, by simp [intOf]; omega⟩
    · rw [sumStep_def]
    · show _ = _
      rw [← hg.out, hd.out, List.foldl_cons]
  · have hkm2 : k = n := by omega
    have i4 : ¬ (k : Int) < (n : Int) := by omega
    have hh : g = r := by have := hg.out; rw [List.drop_eq_nil_of_le (by rw [hlen.out]; omega)] at this; exact this
    rw [hh]
    clear hh hg
    go_wp2_with fail
    go_ret
    exact ⟨rfl, rfl⟩
set_option maxHeartbeats 1000000 in
theorem refSum_any (a : Option Addr) (n c : Nat) (l : Bytes) (w : World) (h : IsBytes w a n c l) : Calls Tryz.prog 168 #[.slice a n c] w (Gives (.int .u32 (W32 (sumF l))) w) := by
 have hlen := Lib.hid h.1
 unfold sumF
 rw [hlen.out]
 generalize hr : l.foldl sumStep (BitVec.ofNat 32 n) = r
 have HR := Lib.hid hr
 clear hr
 have hc : n ≤ c := h.2.1
 have hc2 : c ≤ 9223372036854775807 := h.2.2.1
 go_enter Tryz.func168, Tryz.ntmps168
 go_wp2
 rw [narrow_len]
 go_loop [3, 13] (fun u i => ∃ (k : Nat) (g : BitVec 32), k ≤ n ∧ i = .int .i64 k ∧ u = .int .u32 (W32 g) ∧ Hid ((l.drop k).foldl sumStep g = r)) (fun _ i => n - (intOf i).toNat)
 case atStart => exact ⟨0, _, by omega, rfl, rfl, HR⟩
 case round =>
  obtain ⟨k, g, hk, rfl, rfl, hg⟩ := hrel
  by_cases hkn : k < n
  · have i4 : (k : Int) < (n : Int) := by omega
    have hkl : k < l.length := by rw [hlen.out]; exact hkn
    obtain ⟨b, off, hbo, hcell⟩ := h.known (by omega)
    have hc0 := hcell k hkn
    have hd := Lib.hid (List.drop_eq_getElem_cons hkl)
    rw [hbo]
    clear hcell hbo
    go_wp2_with fail
    refine (refFmix32_any _ _).mono ?_
    rintro e w' ⟨rfl, rfl⟩
    go_wp2_with fail
    refine ⟨⟨k + 1, sumStep g (l[k]'hkl), by omega, rfl, ?_, ?_⟩, by simp [intOf]; omega⟩
    · rw [sumStep_def]
    · show _ = _
      rw [← hg.out, hd.out, List.foldl_cons]
  · have hkm2 : k = n := by omega
    have i4 : ¬ (k : Int) < (n : Int) := by omega
    have hh : g = r := by have := hg.out; rw [List.drop_eq_nil_of_le (by rw [hlen.out]; omega)] at this; exact this
    rw [hh]
    clear hh hg
    go_wp2_with fail
    go_ret
    exact ⟨rfl, rfl⟩
theorem Seal_any (a : Option Addr) (n c : Nat) (l : Bytes) (w : World) (h : IsBytes w a n c l) (hr : n + 8 ≤ 140737488355328) : Calls Tryz.prog 56 #[.slice a n c] w (GivesBytes (sealF l) w) := by
 go_enter Tryz.func56, Tryz.ntmps56
 go_wp2_with fail
 refine (Sum_any _ _ _ l _ h).mono ?_
 rintro e w' ⟨rfl, rfl⟩
 go_wp2_with fail
 refine (Put32_any _ _ _ l (sumF l) _ h hr).mono ?_
 rintro e w' ⟨v, rfl, ho, hf⟩
 go_wp2_with fail
 go_ret
 exact ⟨v, rfl, ho, hf⟩
theorem refSeal_any (a : Option Addr) (n c : Nat) (l : Bytes) (w : World) (h : IsBytes w a n c l) (hr : n + 8 ≤ 140737488355328) : Calls Tryz.prog 103 #[.slice a n c] w (GivesBytes (sealF l) w) := by
 go_enter Tryz.func103, Tryz.ntmps103
 go_wp2_with fail
 refine (refSum_any _ _ _ l _ h).mono ?_
 rintro e w' ⟨rfl, rfl⟩
 go_wp2_with fail
 refine (refBytes_any _ 4 _ (by omega)).mono ?_
 rintro e w1 ⟨v1, rfl, ho1, hf1⟩
 obtain ⟨a1, c1, rfl, hb1, _⟩ := ho1.bytes
 have h1 := h.no hf1
 rw [leb_length] at hb1 ⊢
 go_wp2_with fail
 refine (refBoth_any _ _ _ l _ _ _ _ _ h1 hb1 (by omega)).mono ?_
 rintro e w2 ⟨v2, rfl, ho2, hf2⟩
 go_wp2_with fail
 go_ret
 exact ⟨v2, rfl, ho2.mono hf1.size, hf1.no hf2⟩
end Go.Proofs.YtidlpihoafnobaaGreat
namespace Go.Proofs.YtidlpihoafnobaaGreat
set_option maxRecDepth 100000
open Go.RowKit
theorem HSAny.ofK {w0 w : World} {hb : Nat} {F : Nat → Prop} {k : Int} {kh kl : BitVec 64} {s : HSt} {tl : Bytes} {lo : BitVec 64} (h : HSAny w0 w hb F k kh kl s tl lo) : OfK k s := by cases s <;> exact h.1
theorem HDone.ofK {w0 w : World} {hb : Nat} {F : Nat → Prop} {k : Int} {kh kl : BitVec 64} {d : Bytes} (h : HDone w0 w hb F k kh kl d) : OfK k (foldS k (firstS k kh kl) d).1 := HSAny.ofK h
end Go.Proofs.YtidlpihoafnobaaGreat
namespace Go.Proofs.YtidlpihoafnobaaGreat
set_option maxRecDepth 100000
open Go.RowKit
def wordsT (kh kl : BitVec 64) (x : L4) (lo : BitVec 64) : List (BitVec 64) := [kl, kh, x.1, x.2.1, x.2.2.1, x.2.2.2, lo]
def headT (k : Int) (ws : List (BitVec 64)) (n : Nat) : Bytes := [104#8, O8 k] ++ ((ws.take n).map (fun y => leb y 8)).flatten
def tellT (k : Int) (kh kl : BitVec 64) (x : L4) (lo : BitVec 64) (tl : Bytes) : Bytes := sealF (headT k (wordsT kh kl x lo) 7 ++ tl)
theorem headT_next (k : Int) (ws : List (BitVec 64)) (n : Nat) (h : n < ws.length) : headT k ws (n + 1) = headT k ws n ++ leb (ws.getD n 0) 8 := by
 unfold headT
 rw [List.take_succ_eq_append_getElem h, List.map_append, List.flatten_append, List.append_assoc, List.getD_eq_getElem?_getD, List.getElem?_eq_getElem h]
 simp
theorem headT_len (k : Int) (ws : List (BitVec 64)) (h : ws.length = 7) : ∀ n, n ≤ 7 → (headT k ws n).length = 2 + 8 * n := by
 intro n
 induction n with
 | zero => intro _; rfl
 | succ n ih => intro hn; rw [headT_next k ws n (by omega), List.length_append, ih (by omega), leb_length]; omega
theorem tellT_len (k : Int) (kh kl : BitVec 64) (x : L4) (lo : BitVec 64) (tl : Bytes) : (tellT k kh kl x lo tl).length = 62 + tl.length := by
 unfold tellT
 rw [sealF_length, List.length_append, headT_len k _ rfl 7 (by omega)]
 omega
theorem tellT_head (k : Int) (kh kl : BitVec 64) (x : L4) (lo : BitVec 64) (tl : Bytes) : (tellT k kh kl x lo tl).getD 0 0 = 104#8 := rfl
def Words7 (w : World) (b : Nat) (ws : List (BitVec 64)) : Prop := ∀ i, i < 7 → w.cell? ⟨b, i, none⟩ = some (.int .u64 (W64 (ws.getD i 0)))
theorem Words7.no {w w' : World} {b : Nat} {ws : List (BitVec 64)} (h : Words7 w b ws) (f : Fr No w w') : Words7 w' b ws := fun i hi => f.cell (fun h => h) (h i hi)
theorem words7_new (w : World) (kh kl : BitVec 64) (x : L4) (lo : BitVec 64) (T : TypeId) : Words7 (w.alloc (.cells #[.int .u64 (W64 kl), .int .u64 (W64 kh), .int .u64 (W64 x.1), .int .u64 (W64 x.2.1), .int .u64 (W64 x.2.2.1), .int .u64 (W64 x.2.2.2), .int .u64 (W64 lo)] T)) w.heap.size (wordsT kh kl x lo) := by
 intro i hi
 rw [cell_of_row _ w.heap.size i _ _ _ (heap_alloc_new w _)]
 rcases (show i = 0 ∨ i = 1 ∨ i = 2 ∨ i = 3 ∨ i = 4 ∨ i = 5 ∨ i = 6 by omega) with rfl | rfl | rfl | rfl | rfl | rfl | rfl <;> rfl
theorem owns_pair (w : World) (x y : BitVec 8) : Owns (w.alloc (.cells #[.int .u8 (B8 x), .int .u8 (B8 y)] 5)) w.heap.size (.slice (some ⟨w.heap.size, 0, none⟩) 2 2) [x, y] :=
 ⟨rfl, .inr ⟨_, _, _, rfl, Nat.le_refl _, heap_alloc_new w _, Nat.le_refl _, by decide, rfl, rfl⟩⟩
def TellAt (w0 : World) (base : Nat) (k : Int) (ws : List (BitVec 64)) (sb : Nat) (b i : Value) (wr : World) (n : Nat) : Prop :=
 n ≤ 7 ∧ i = .int .i64 n ∧ Owns wr base b (headT k ws n) ∧ Words7 wr sb ws ∧ Fr No w0 wr
theorem Marshal_nil (w : World) : Calls Tryz.prog 35 #[.pointer none] w (Gives (.tuple #[.slice none 0 0, .int .i64 10]) w) := by
 go_enter Tryz.func35, Tryz.ntmps35
 go_wp2_with fail
 refine (hKind_no _).mono ?_
 rintro e w' ⟨rfl, rfl⟩
 go_wp2_with fail
 go_ret2
 exact ⟨rfl, rfl⟩
set_option maxHeartbeats 4000000 in
theorem Marshal_any {w0 w : World} {hb : Nat} {F : Nat → Prop} {k : Int} {kh kl : BitVec 64} {s : HSt} {tl : Bytes} {lo : BitVec 64} (h : HSAny w0 w hb F k kh kl s tl lo) (hl : tl.length ≤ 1000) :
 Calls Tryz.prog 35 #[.pointer (some ⟨hb, 0, none⟩)] w (fun e w' => ∃ v, e = .returned (.tuple #[v, .int .i64 0]) ∧ Owns w' w.heap.size v (tellT k kh kl (lanesS s) lo tl) ∧ Fr No w w') := by
 have hk := h.ofK.ok
 have hk0 : (k == 0) = false := by rcases hk with rfl | rfl | rfl | rfl | rfl | rfl | rfl | rfl <;> rfl
 have hlanes := h.lanes
 unfold tellT
 generalize lanesS s = x at hlanes ⊢
 obtain ⟨ws, hws⟩ : ∃ ws, Hid (ws = wordsT kh kl x lo) := ⟨_, Lib.hid rfl⟩
 rw [← hws.out]
 have hwl : Hid (ws.length = 7) := Lib.hid (by rw [hws.out]; rfl)
 clear hk
 go_enter Tryz.func35, Tryz.ntmps35
 go_wp2_with fail
 refine h.kind.mono ?_
 rintro e w' ⟨rfl, rfl⟩
 go_wp2_with fail
 refine hlanes.mono ?_
 rintro e w1 ⟨v1, rfl, hO1, hf1⟩
 obtain ⟨a1, c1, rfl, hb1, _⟩ := hO1.bytes
 have hX := row4_new w1 49 (.int .u64 (W64 x.1)) (.int .u64 (W64 x.2.1)) (.int .u64 (W64 x.2.2.1)) (.int .u64 (W64 x.2.2.2))
 have hF := hf1.alloc (.cells #[.int .u64 (W64 x.1), .int .u64 (W64 x.2.1), .int .u64 (W64 x.2.2.1), .int .u64 (W64 x.2.2.2)] 49)
 have hbt := hb1.no ((Fr.refl No w1).alloc (.cells #[.int .u64 (W64 x.1), .int .u64 (W64 x.2.1), .int .u64 (W64 x.2.2.1), .int .u64 (W64 x.2.2.2)] 49))
 have h2 := h.no hF
 clear hO1 hb1 hlanes h
 go_wp2_with fail
 generalize w1.heap.size = xb at hX ⊢
 generalize w1.alloc (.cells #[.int .u64 (W64 x.1), .int .u64 (W64 x.2.1), .int .u64 (W64 x.2.2.1), .int .u64 (W64 x.2.2.2)] 49) = w2 at hX hF hbt h2 ⊢
 refine h2.kind.mono ?_
 rintro e w' ⟨rfl, rfl⟩
 have hP := owns_pair w2 104#8 (O8 k)
 have hge : w.heap.size ≤ w2.heap.size := hF.size
 replace hP := hP.mono hge
 have hA := (Fr.refl No w2).alloc (.cells #[.int .u8 (B8 104#8), .int .u8 (B8 (O8 k))] 5)
 replace hX := hX.no hA
 replace hbt := hbt.no hA
 replace h2 := h2.no hA
 replace hF := hF.no hA
 have e104 : B8 104#8 = 104 := by decide
 rw [e104] at hP hX hbt h2 hF
 clear hA e104
 go_wp2_with fail
 generalize w2.heap.size = pb at hP ⊢
 generalize w2.alloc (.cells #[.int .u8 104, .int .u8 (B8 (O8 k))] 5) = w3 at hP hX hbt h2 hF ⊢
 refine h2.key.mono ?_
 rintro e w4 ⟨rfl, hf4⟩
 have hU := row2_new w4 24 (.int .u64 (W64 kh)) (.int .u64 (W64 kl))
 have hA := hf4.alloc (.cells #[.int .u64 (W64 kh), .int .u64 (W64 kl)] 24)
 replace hP := hP.no hA
 replace hX := hX.no hA
 replace hbt := hbt.no hA
 replace hF := hF.no hA
 clear h2
 have u0 := hU.c0
 have u1 := hU.c1
 have x0 := hX.c0
 have x1 := hX.c1
 have x2 := hX.c2
 have x3 := hX.c3
 go_upto_region 6 with fail
 generalize w4.heap.size = ub at hU u0 u1 ⊢
 generalize w4.alloc (.cells #[.int .u64 (W64 kh), .int .u64 (W64 kl)] 24) = w5 at hU hP hX hbt hF u0 u1 x0 x1 x2 x3 ⊢
 have hW := words7_new w5 kh kl x lo 22
 rw [← hws.out] at hW
 have hA2 := (Fr.refl No w5).alloc (.cells #[.int .u64 (W64 kl), .int .u64 (W64 kh), .int .u64 (W64 x.1), .int .u64 (W64 x.2.1), .int .u64 (W64 x.2.2.1), .int .u64 (W64 x.2.2.2), .int .u64 (W64 lo)] 22)
 replace hP := hP.no hA2
 replace hbt := hbt.no hA2
 replace hF := hF.no hA2
 go_wp2_with fail
 clear u0 u1 x0 x1 x2 x3 hU hX hA hA2
 generalize w5.heap.size = sb at hW ⊢
 generalize w5.alloc (.cells #[.int .u64 (W64 kl), .int .u64 (W64 kh), .int .u64 (W64 x.1), .int .u64 (W64 x.2.1), .int .u64 (W64 x.2.2.1), .int .u64 (W64 x.2.2.2), .int .u64 (W64 lo)] 22) = w6 at hW hP hbt hF ⊢
 have hT : TellAt w w.heap.size k ws sb (.slice (some ⟨pb, 0, none⟩) 2 2) (.int .i64 0) w6 0 := ⟨by omega, rfl, hP, hW, hF⟩
 have hbo := hbt
 clear hP hW hF
 have hS : Fr No w6 w6 := Fr.refl No w6
 go_loopw [7, 41] (fun b i wr => ∃ n, TellAt w w.heap.size k ws sb b i wr n ∧ Fr No w6 wr) (fun _ i _ => 7 - (intOf i).toNat)
 case atStart => exact ⟨0, hT, hS⟩
 case round =>
  obtain ⟨n, ⟨hn, rfl, hP, hW, hF⟩, hS6⟩ := hrel
  clear hT hS
  obtain ⟨ap, cp, rfl, hbp, hnp⟩ := hP.bytes
  have hlen := headT_len k ws hwl.out n hn
  by_cases hlt : n < 7
  · have i1 : (n : Int) < 7 := by omega
    have hc := hW n hlt
    have hnx := Lib.hid (headT_next k ws n (by have := hwl.out; omega))
    generalize ws.getD n 0 = y at hc hnx
    have HLN := Lib.hid hlen
    have hP0 := hP
    clear hlen hP
    generalize hhd : headT k ws n = hd at hbp hnx HLN hP0 ⊢
    have HHD := Lib.hid hhd
    clear hhd
    go_wp2_with fail
    refine (Put64_any _ _ _ hd y _ hbp (by have := HLN.out; omega)).mono ?_
    rintro e w7 ⟨v7, rfl, hO7, hf7⟩
    rw [← hnx.out] at hO7
    have hsz := hF.size
    go_wp2_with fail
    go_roundw
    case rel => exact ⟨n + 1, ⟨by omega, by simp, hO7.mono hsz, hW.no hf7, hF.no hf7⟩, hS6.no hf7⟩
    case measure => simp [intOf]; omega
  · obtain rfl : n = 7 := by omega
    have hbt2 := hbo.no hS6
    have hsz := hF.size
    clear hlt hn hW hwl hws
    obtain ⟨hd, hhd⟩ : ∃ hd, Hid (hd = headT k ws 7) := ⟨_, Lib.hid rfl⟩
    rw [← hhd.out] at hlen hbp hP ⊢
    rw [show ((7 : Nat) : Int) = 7 from rfl]
    have HLN := Lib.hid hlen
    clear hlen
    go_wp2_with (at_builtin; refine wpList_append_bytes _ _ _ _ _ _ w.heap.size _ hd rfl hP _ _ _ tl rfl hbt2 (by have := HLN.out; omega) hsz ?_; intro v8 w8 hO8 hf8 _; have hf8' : Fr No w w8 := hF.append hf8 hP (Nat.le_refl _); obtain ⟨a8, c8, rfl, hb8, _⟩ := hO8.bytes)
    rw [List.length_append] at hb8
    refine (Seal_any _ _ _ (hd ++ tl) _ hb8 (by have := HLN.out; omega)).mono ?_
    rintro e w9 ⟨v9, rfl, hO9, hf9⟩
    have hsz9 := hf8'.size
    obtain ⟨an, han⟩ : ∃ an, Hid (an = sealF (hd ++ tl)) := ⟨_, Lib.hid rfl⟩
    rw [← han.out] at hO9
    obtain ⟨a9, c9, rfl, hb9, _⟩ := hO9.bytes
    go_wp2_with fail
    go_ret2
    rw [← hhd.out, ← han.out]
    exact ⟨_, rfl, hO9.mono hsz9, hf8'.no hf9⟩
set_option maxHeartbeats 4000000 in
theorem refWords_any (k : Int) (kh kl : BitVec 64) (x : L4) (lo : BitVec 64) (a1 : Option Addr) (n1 c1 : Nat) (tl : Bytes) (w : World) (hb : IsBytes w a1 n1 c1 tl) (hl : tl.length ≤ 1000) :
 Calls Tryz.prog 57 #[.int .i64 k, .agg #[.int .u64 (W64 kh), .int .u64 (W64 kl)], .agg #[.int .u64 (W64 x.1), .int .u64 (W64 x.2.1), .int .u64 (W64 x.2.2.1), .int .u64 (W64 x.2.2.2)], .int .u64 (W64 lo), .slice a1 n1 c1] w (GivesBytes (tellT k kh kl x lo tl) w) := by
 unfold tellT
 obtain ⟨ws, hws⟩ : ∃ ws, Hid (ws = wordsT kh kl x lo) := ⟨_, Lib.hid rfl⟩
 rw [← hws.out]
 have hwl : Hid (ws.length = 7) := Lib.hid (by rw [hws.out]; rfl)
 have hU := row2_new w 24 (.int .u64 (W64 kh)) (.int .u64 (W64 kl))
 have hF := (Fr.refl No w).alloc (.cells #[.int .u64 (W64 kh), .int .u64 (W64 kl)] 24)
 have hX := row4_new (w.alloc (.cells #[.int .u64 (W64 kh), .int .u64 (W64 kl)] 24)) 49 (.int .u64 (W64 x.1)) (.int .u64 (W64 x.2.1)) (.int .u64 (W64 x.2.2.1)) (.int .u64 (W64 x.2.2.2))
 replace hU := hU.no ((Fr.refl No _).alloc (.cells #[.int .u64 (W64 x.1), .int .u64 (W64 x.2.1), .int .u64 (W64 x.2.2.1), .int .u64 (W64 x.2.2.2)] 49))
 replace hF := hF.alloc (.cells #[.int .u64 (W64 x.1), .int .u64 (W64 x.2.1), .int .u64 (W64 x.2.2.1), .int .u64 (W64 x.2.2.2)] 49)
 go_enter Tryz.func57, Tryz.ntmps57
 go_upto_region 1 with fail
 simp only [World.size_alloc] at hX
 generalize w.heap.size + 1 = xb at hX ⊢
 obtain ⟨ub, hub⟩ : ∃ ub, ub = w.heap.size := ⟨_, rfl⟩
 rw [← hub] at hU ⊢
 clear hub
 generalize (w.alloc (.cells #[.int .u64 (W64 kh), .int .u64 (W64 kl)] 24)).alloc (.cells #[.int .u64 (W64 x.1), .int .u64 (W64 x.2.1), .int .u64 (W64 x.2.2.1), .int .u64 (W64 x.2.2.2)] 49) = w2 at hU hX hF ⊢
 have hP := owns_pair w2 104#8 (O8 k)
 have hge : w.heap.size ≤ w2.heap.size := hF.size
 replace hP := hP.mono hge
 have hA := (Fr.refl No w2).alloc (.cells #[.int .u8 (B8 104#8), .int .u8 (B8 (O8 k))] 5)
 replace hX := hX.no hA
 replace hU := hU.no hA
 replace hF := hF.no hA
 have e104 : B8 104#8 = 104 := by decide
 rw [e104] at hP hX hU hF
 clear hA e104
 have hbt := hb.no hF
 have u0 := hU.c0
 have u1 := hU.c1
 have x0 := hX.c0
 have x1 := hX.c1
 have x2 := hX.c2
 have x3 := hX.c3
 go_upto_region 2 with fail
 generalize w2.heap.size = pb at hP ⊢
 generalize w2.alloc (.cells #[.int .u8 104, .int .u8 (B8 (O8 k))] 5) = w5 at hP hX hU hbt hF u0 u1 x0 x1 x2 x3 ⊢
 have hW := words7_new w5 kh kl x lo 22
 rw [← hws.out] at hW
 have hA2 := (Fr.refl No w5).alloc (.cells #[.int .u64 (W64 kl), .int .u64 (W64 kh), .int .u64 (W64 x.1), .int .u64 (W64 x.2.1), .int .u64 (W64 x.2.2.1), .int .u64 (W64 x.2.2.2), .int .u64 (W64 lo)] 22)
 replace hP := hP.no hA2
 replace hbt := hbt.no hA2
 replace hF := hF.no hA2
 go_wp2_with fail
 clear u0 u1 x0 x1 x2 x3 hU hX hA2 hb
 generalize w5.heap.size = sb at hW ⊢
 generalize w5.alloc (.cells #[.int .u64 (W64 kl), .int .u64 (W64 kh), .int .u64 (W64 x.1), .int .u64 (W64 x.2.1), .int .u64 (W64 x.2.2.1), .int .u64 (W64 x.2.2.2), .int .u64 (W64 lo)] 22) = w6 at hW hP hbt hF ⊢
 have hT : TellAt w w.heap.size k ws sb (.slice (some ⟨pb, 0, none⟩) 2 2) (.int .i64 0) w6 0 := ⟨by omega, rfl, hP, hW, hF⟩
 have hbo := hbt
 clear hP hW hF
 have hS : Fr No w6 w6 := Fr.refl No w6
 go_loopw [11, 32] (fun b i wr => ∃ n, TellAt w w.heap.size k ws sb b i wr n ∧ Fr No w6 wr) (fun _ i _ => 7 - (intOf i).toNat)
 case atStart => exact ⟨0, hT, hS⟩
 case round =>
  obtain ⟨n, ⟨hn, rfl, hP, hW, hF⟩, hS6⟩ := hrel
  clear hT hS
  obtain ⟨ap, cp, rfl, hbp, hnp⟩ := hP.bytes
  have hlen := headT_len k ws hwl.out n hn
  by_cases hlt : n < 7
  · have i1 : (n : Int) < 7 := by omega
    have hc := hW n hlt
    have hnx := Lib.hid (headT_next k ws n (by have := hwl.out; omega))
    generalize ws.getD n 0 = y at hc hnx
    have HLN := Lib.hid hlen
    have hP0 := hP
    clear hlen hP
    generalize hhd : headT k ws n = hd at hbp hnx HLN hP0 ⊢
    have HHD := Lib.hid hhd
    clear hhd
    go_wp2_with fail
    refine (refBytes_any y 8 _ (by omega)).mono ?_
    rintro e w7 ⟨v7, rfl, hO7, hf7⟩
    obtain ⟨a7, c7, rfl, hb7, _⟩ := hO7.bytes
    rw [leb_length] at hb7 ⊢
    go_wp2_with fail
    refine (refBoth_any _ _ _ hd _ _ _ _ _ (hbp.no hf7) hb7 (by have := HLN.out; omega)).mono ?_
    rintro e w8 ⟨v8, rfl, hO8, hf8⟩
    rw [← hnx.out] at hO8
    have hsz := (hF.no hf7).size
    go_wp2_with fail
    go_roundw
    case rel => exact ⟨n + 1, ⟨by omega, by simp, hO8.mono hsz, (hW.no hf7).no hf8, (hF.no hf7).no hf8⟩, (hS6.no hf7).no hf8⟩
    case measure => simp [intOf]; omega
  · obtain rfl : n = 7 := by omega
    have hbt2 := hbo.no hS6
    have hsz := hF.size
    clear hlt hn hW hwl hws
    obtain ⟨hd, hhd⟩ : ∃ hd, Hid (hd = headT k ws 7) := ⟨_, Lib.hid rfl⟩
    rw [← hhd.out] at hlen hbp hP ⊢
    rw [show ((7 : Nat) : Int) = 7 from rfl]
    have HLN := Lib.hid hlen
    clear hlen
    have htl := hbt2.1
    go_wp2_with fail
    refine (refBoth_any _ _ _ hd _ _ _ tl _ hbp hbt2 (by have := HLN.out; omega)).mono ?_
    rintro e w8 ⟨v8, rfl, hO8, hf8⟩
    have hsz8 := (hF.no hf8).size
    obtain ⟨a8, c8, rfl, hb8, _⟩ := hO8.bytes
    go_wp2_with fail
    rw [List.length_append, htl] at hb8
    refine (refSeal_any _ _ _ (hd ++ tl) _ hb8 (by have := HLN.out; omega)).mono ?_
    rintro e w9 ⟨v9, rfl, hO9, hf9⟩
    obtain ⟨a9, c9, rfl, hb9, _⟩ := hO9.bytes
    go_wp2_with fail
    go_ret
    rw [← hhd.out]
    exact ⟨_, rfl, hO9.mono hsz8, (hF.no hf8).no hf9⟩
set_option maxHeartbeats 1000000 in
theorem refBytesOf_any {k : Int} (hk : KindOk k) (kh kl : BitVec 64) (a : Option Addr) (n c : Nat) (l : Bytes) (w : World) (hb : IsBytes w a n c l) (hn : n ≤ 1099511627776) :
 Calls Tryz.prog 36 #[.int .i64 k, .agg #[.int .u64 (W64 kh), .int .u64 (W64 kl)], .slice a n c] w (GivesBytes (tellT k kh kl (lanesS (foldS k (firstS k kh kl) l).1) (BitVec.ofNat 64 l.length) (foldS k (firstS k kh kl) l).2) w) := by
 have hB := fun w hb => refBlocks_all hk kh kl a n c l w hb hn
 have hm := fold_mod (first_ofK hk kh kl) l
 have hbp := block_pos hk
 generalize foldS k (firstS k kh kl) l = r at hB hm ⊢
 have hlt := Int.emod_lt_of_pos (l.length : Int) hbp.1
 have HM : Hid (r.2.length ≤ 1000) := Lib.hid (by omega)
 rw [hb.1]
 clear hm hbp hlt
 obtain ⟨x, hx⟩ : ∃ x, Hid (x = lanesS r.1) := ⟨_, Lib.hid rfl⟩
 rw [← hx.out]
 have hWd := fun a' n' c' w hb => refWords_any k kh kl x (BitVec.ofNat 64 n) a' n' c' r.2 w hb HM.out
 generalize tellT k kh kl x (BitVec.ofNat 64 n) r.2 = ans at hWd ⊢
 have hU := row2_new w 24 (.int .u64 (W64 kh)) (.int .u64 (W64 kl))
 have hF := (Fr.refl No w).alloc (.cells #[.int .u64 (W64 kh), .int .u64 (W64 kl)] 24)
 have u0 := hU.c0
 have u1 := hU.c1
 go_enter Tryz.func36, Tryz.ntmps36
 go_wp2_with fail
 obtain ⟨ub, hub⟩ : ∃ ub, ub = w.heap.size := ⟨_, rfl⟩
 rw [← hub] at hU u0 u1 ⊢
 clear hub
 generalize w.alloc (.cells #[.int .u64 (W64 kh), .int .u64 (W64 kl)] 24) = w1 at hF hU u0 u1 ⊢
 refine (hB _ (hb.no hF)).mono ?_
 rintro e w2 ⟨a', n', c', rfl, hb2, hp, hf⟩
 clear u0 u1 hB
 rw [← hx.out]
 have hV := row4_new w2 49 (.int .u64 (W64 x.1)) (.int .u64 (W64 x.2.1)) (.int .u64 (W64 x.2.2.1)) (.int .u64 (W64 x.2.2.2))
 have hG := (Fr.refl No w2).alloc (.cells #[.int .u64 (W64 x.1), .int .u64 (W64 x.2.1), .int .u64 (W64 x.2.2.1), .int .u64 (W64 x.2.2.2)] 49)
 have u0 := ((hU.no hf).no hG).c0
 have u1 := ((hU.no hf).no hG).c1
 have v0 := hV.c0
 have v1 := hV.c1
 have v2 := hV.c2
 have v3 := hV.c3
 have hb3 := hb2.no hG
 have hF3 := (hF.no hf).no hG
 go_wp2_with fail
 refine (hWd a' n' c' _ hb3).mono ?_
 rintro e w4 ⟨v4, rfl, hO4, hf4⟩
 have hsz := hF3.size
 obtain ⟨a4, c4, rfl, hb4, _⟩ := hO4.bytes
 go_wp2_with fail
 go_ret
 exact ⟨_, rfl, hO4.mono hsz, hF3.no hf4⟩
end Go.Proofs.YtidlpihoafnobaaGreat
namespace Go.Proofs.YtidlpihoafnobaaGreat
set_option maxRecDepth 100000
open Go.RowKit
theorem scoAwake_yes (w : World) : Calls Tryz.prog 34 #[] w (Yes w) := by
 go_enter Tryz.func34, Tryz.ntmps34
 go_wp2_with fail
 refine (New_yes (k := 7) (kh := 0#64) (kl := 0#64) (by decide) _ w (Fr.refl No w)).mono ?_
 rintro e w1 ⟨hb, rfl, F, h1, _, hf1⟩
 go_wp2_with fail
 have hM := Marshal_any h1 (by simp)
 have h4 := tellT_len 7 0#64 0#64 (lanesS (firstS 7 0#64 0#64)) 0#64 []
 have h5 := tellT_head 7 0#64 0#64 (lanesS (firstS 7 0#64 0#64)) 0#64 []
 generalize tellT 7 0#64 0#64 (lanesS (firstS 7 0#64 0#64)) 0#64 [] = ans at hM h4 h5
 have h4' : ans.length = 62 := h4
 clear h4
 refine hM.mono ?_
 rintro e w2 ⟨v2, rfl, hO2, hf2⟩
 obtain ⟨a2, c2, rfl, hb2, _⟩ := hO2.bytes
 rw [h4'] at hb2 ⊢
 obtain ⟨b, off, rfl, hcell⟩ := hb2.known (by omega)
 have hc0 := hcell 0 (by omega)
 rw [h5, Nat.add_zero] at hc0
 clear h4' h5 hM hO2 hcell
 go_wp2_with fail
 go_ret
 exact ⟨rfl, hf1.no hf2⟩
set_option maxHeartbeats 1000000 in
theorem ScodeTells_long (k : Int) (kh kl : BitVec 64) (a1 : Option Addr) (n1 c1 : Nat) (l1 : Bytes) (w : World) (h : 400 < n1 ∨ ¬ checkN k kh kl = 0) : Calls Tryz.prog 7 #[.int .i64 k, .agg #[.int .u64 (W64 kh), .int .u64 (W64 kl)], .slice a1 n1 c1] w (Yes w) := by
 have hC := refCheck_any k kh kl
 generalize checkN k kh kl = z at hC h
 by_cases h1 : 400 < n1
 · have i1 : (400 : Int) < (n1 : Int) := by omega
   clear h h1 hC
   have hU := row2_new w 24 (.int .u64 (W64 kh)) (.int .u64 (W64 kl))
   have hF := (Fr.refl No w).alloc (.cells #[.int .u64 (W64 kh), .int .u64 (W64 kl)] 24)
   have u0 := hU.c0
   have u1 := hU.c1
   go_enter Tryz.func7, Tryz.ntmps7
   go_wp2_with fail
   refine (scoAwake_yes _).mono ?_
   rintro e w1 ⟨rfl, hf1⟩
   go_wp2_with fail
   go_ret
   exact ⟨rfl, hF.no hf1⟩
 have i1 : (n1 : Int) ≤ 400 := by omega
 have hz : (z != 0) = true := by simp only [bne_iff_ne, ne_eq]; omega
 clear h h1
 have hU := row2_new w 24 (.int .u64 (W64 kh)) (.int .u64 (W64 kl))
 have hF := (Fr.refl No w).alloc (.cells #[.int .u64 (W64 kh), .int .u64 (W64 kl)] 24)
 have u0 := hU.c0
 have u1 := hU.c1
 go_enter Tryz.func7, Tryz.ntmps7
 go_wp2_with fail
 refine (scoAwake_yes _).mono ?_
 rintro e w1 ⟨rfl, hf1⟩
 replace hU := hU.no hf1
 replace hF := hF.no hf1
 clear u0 u1
 have u0 := hU.c0
 have u1 := hU.c1
 go_wp2_with fail
 refine (hC _).mono ?_
 rintro e w2 ⟨rfl, hf2⟩
 go_wp2_with fail
 go_ret
 exact ⟨rfl, hF.no hf2⟩
set_option maxHeartbeats 4000000 in
theorem ScodeTells_yes (k : Int) (kh kl : BitVec 64) (a1 : Option Addr) (n1 c1 : Nat) (l1 : Bytes) (w : World) (hb1 : IsBytes w a1 n1 c1 l1) : Calls Tryz.prog 7 #[.int .i64 k, .agg #[.int .u64 (W64 kh), .int .u64 (W64 kl)], .slice a1 n1 c1] w (Yes w) := by
 by_cases hbig : 400 < n1 ∨ ¬ checkN k kh kl = 0
 · exact ScodeTells_long k kh kl a1 n1 c1 l1 w hbig
 have i1 : (n1 : Int) ≤ 400 := by omega
 have m1 : n1 ≤ 400 := by omega
 have hc : checkN k kh kl = 0 := by omega
 have hk := check_ok hc
 have hNew := fun w => New_yes hc w
 have hC := refCheck_any k kh kl
 rw [hc] at hC
 have hm := fold_mod (first_ofK hk kh kl) l1
 have hbp := block_pos hk
 have hlt := Int.emod_lt_of_pos (l1.length : Int) hbp.1
 have HM : Hid ((foldS k (firstS k kh kl) l1).2.length ≤ 1000) := Lib.hid (by omega)
 have hBy := fun w hb => refBytesOf_any hk kh kl a1 n1 c1 l1 w hb (by omega)
 obtain ⟨ans, hans⟩ : ∃ ans, Hid (ans = tellT k kh kl (lanesS (foldS k (firstS k kh kl) l1).1) (BitVec.ofNat 64 l1.length) (foldS k (firstS k kh kl) l1).2) := ⟨_, Lib.hid rfl⟩
 rw [← hans.out] at hBy
 clear hbig hc hk hm hbp hlt
 have hU := row2_new w 24 (.int .u64 (W64 kh)) (.int .u64 (W64 kl))
 have hF := (Fr.refl No w).alloc (.cells #[.int .u64 (W64 kh), .int .u64 (W64 kl)] 24)
 have u0 := hU.c0
 have u1 := hU.c1
 go_enter Tryz.func7, Tryz.ntmps7
 go_wp2_with fail
 generalize w.heap.size = ub at hU u0 u1 ⊢
 generalize w.alloc (.cells #[.int .u64 (W64 kh), .int .u64 (W64 kl)] 24) = w0 at hU hF u0 u1 ⊢
 refine (scoAwake_yes _).mono ?_
 rintro e w1 ⟨rfl, hf1⟩
 replace hU := hU.no hf1
 replace hF := hF.no hf1
 clear u0 u1
 have u0 := hU.c0
 have u1 := hU.c1
 go_wp2_with fail
 refine (hC _).mono ?_
 rintro e w2 ⟨rfl, hf2⟩
 replace hU := hU.no hf2
 replace hF := hF.no hf2
 clear hC
 clear u0 u1
 have u0 := hU.c0
 have u1 := hU.c1
 go_wp2_with fail
 refine (hNew _ w hF).mono ?_
 rintro e w4 ⟨hb, rfl, F, h4, _, hf4⟩
 have hL := HDone_nil h4
 replace hU := hU.no hf4
 clear h4 hf4 hf1 hf2 hF hNew u0 u1
 go_wp2_with fail
 refine (hL.write a1 n1 c1 l1 (hb1.no hL.fr) (hb1.old (fun x g => hL.above x g)) (by omega)).mono ?_
 rw [List.nil_append]
 rintro e w5 ⟨rfl, F5, hL5, hf5, _⟩
 replace hU := hU.con hf5 hL.con (by decide)
 clear hL hf5
 go_wp2_with fail
 have hM := Marshal_any hL5.any HM.out
 rw [← hans.out] at hM
 refine hM.mono ?_
 rintro e w6 ⟨v6, rfl, hO6, hf6⟩
 obtain ⟨a6, c6, rfl, hb6, _⟩ := hO6.bytes
 replace hU := hU.no hf6
 replace hL5 := hL5.no hf6
 have u0 := hU.c0
 have u1 := hU.c1
 clear hM hO6 hf6
 go_wp2_with fail
 refine (Marshal_nil _).mono ?_
 rintro e w' ⟨rfl, rfl⟩
 go_wp2_with fail
 refine (hBy _ (hb1.no hL5.fr)).mono ?_
 rintro e w7 ⟨v7, rfl, hO7, hf7⟩
 obtain ⟨a7, c7, rfl, hb7, _⟩ := hO7.bytes
 clear hO7 u0 u1
 go_wp2_with fail
 refine (refSame_any _ _ _ _ _ _ _ _ _ (hb6.no hf7) hb7).mono ?_
 rintro e w' ⟨rfl, rfl⟩
 rw [beq_self_eq_true]
 go_wp2_with fail
 go_ret
 exact ⟨rfl, hL5.fr.no hf7⟩
end Go.Proofs.YtidlpihoafnobaaGreat
