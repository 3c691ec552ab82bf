/- LastM86 RefM86 -/
import Derived.Test.YtidlpihoafnobaaGreatDoorPEndM86
set_option linter.unusedVariables false
set_option linter.unusedSimpArgs false
namespace Go.Proofs.YtidlpihoafnobaaGreatDoor.StM86
set_option maxRecDepth 100000
open Go.Proofs.YtidlpihoafnobaaGreatDoor.StG32
open Go.RowKit
theorem endS_def (s : S4) (l : Bytes) (lo : BitVec 64) : spreadF (mapTo fmix32 (spreadF (mapTo (fun x => x ^^^ BitVec.setWidth 32 lo) (mixTo s l 4) 4)) 4) = endS s l lo := rfl
set_option maxHeartbeats 4000000 in
theorem end_any (s : ST) (a : Option Addr) (n c : Nat) (l : Bytes) (lo : BitVec 64) (w : World) (hb : IsBytes w a n c l) :
 Calls Tryz.prog 129 #[.agg #[cS s 0, cS s 1, cS s 2, cS s 3], .slice a n c, .int .u64 (W64 lo)] w (GivesNew (.agg #[.int .u64 (W64 (endHi s l lo)), .int .u64 (W64 (endLo s l lo))]) w) := by
 simp only [cS0, cS1, cS2, cS3]
 have hlen := Lib.hid hb.1
 have hF1 : Fr No w ((((w.alloc (.cells #[.int .u32 (W32 (s.1)), .int .u32 (W32 (s.2.1)), .int .u32 (W32 (s.2.2.1)), .int .u32 (W32 (s.2.2.2))] 123)).alloc (.cells #[.slice a n c] 22)).alloc (.cells #[.int .u64 (W64 lo)] 28)).alloc (.cells #[.int .u64 0, .int .u64 0] 30)) := ((((Fr.refl No w).alloc _).alloc _).alloc _).alloc _
 have hB1 : BoxAt ((((w.alloc (.cells #[.int .u32 (W32 (s.1)), .int .u32 (W32 (s.2.1)), .int .u32 (W32 (s.2.2.1)), .int .u32 (W32 (s.2.2.2))] 123)).alloc (.cells #[.slice a n c] 22)).alloc (.cells #[.int .u64 (W64 lo)] 28)).alloc (.cells #[.int .u64 0, .int .u64 0] 30)) w.heap.size s := BoxAt.fr (row_box (row4_new w 123 (.int .u32 (W32 (s.1))) (.int .u32 (W32 (s.2.1))) (.int .u32 (W32 (s.2.2.1))) (.int .u32 (W32 (s.2.2.2))))) ((((Fr.refl No _).alloc _).alloc _).alloc _) (fun h => h)
 have ht1 : ((((w.alloc (.cells #[.int .u32 (W32 (s.1)), .int .u32 (W32 (s.2.1)), .int .u32 (W32 (s.2.2.1)), .int .u32 (W32 (s.2.2.2))] 123)).alloc (.cells #[.slice a n c] 22)).alloc (.cells #[.int .u64 (W64 lo)] 28)).alloc (.cells #[.int .u64 0, .int .u64 0] 30)).heap[w.heap.size + 1]? = some (.cells #[.slice a n c] 22 (0, 0)) := Fr.heap (((Fr.refl No _).alloc _).alloc _) (fun h => h) (heap_alloc2_new w _ _)
 have hl1 : ((((w.alloc (.cells #[.int .u32 (W32 (s.1)), .int .u32 (W32 (s.2.1)), .int .u32 (W32 (s.2.2.1)), .int .u32 (W32 (s.2.2.2))] 123)).alloc (.cells #[.slice a n c] 22)).alloc (.cells #[.int .u64 (W64 lo)] 28)).alloc (.cells #[.int .u64 0, .int .u64 0] 30)).heap[w.heap.size + 2]? = some (.cells #[.int .u64 (W64 lo)] 28 (0, 0)) := Fr.heap ((Fr.refl No _).alloc _) (fun h => h) (heap_alloc3_new w _ _ _)
 have hU1 : Row2 ((((w.alloc (.cells #[.int .u32 (W32 (s.1)), .int .u32 (W32 (s.2.1)), .int .u32 (W32 (s.2.2.1)), .int .u32 (W32 (s.2.2.2))] 123)).alloc (.cells #[.slice a n c] 22)).alloc (.cells #[.int .u64 (W64 lo)] 28)).alloc (.cells #[.int .u64 0, .int .u64 0] 30)) (w.heap.size + 3) 30 (.int .u64 0) (.int .u64 0) := heap_alloc4_new w _ _ _ _
 have hb1 := hb.no hF1
 have ht2 := Lib.hid ht1
 have hl2 := Lib.hid hl1
 have ct : ((((w.alloc (.cells #[.int .u32 (W32 (s.1)), .int .u32 (W32 (s.2.1)), .int .u32 (W32 (s.2.2.1)), .int .u32 (W32 (s.2.2.2))] 123)).alloc (.cells #[.slice a n c] 22)).alloc (.cells #[.int .u64 (W64 lo)] 28)).alloc (.cells #[.int .u64 0, .int .u64 0] 30)).cell? ⟨w.heap.size + 1, 0, none⟩ = some (.slice a n c) := by rw [cell_of_row _ _ 0 _ _ _ ht1]; rfl
 clear ht1 hl1
 go_enter Tryz.func129, Tryz.ntmps129
 go_wp2_with fail
 try rw [show w.heap.size + 1 + 1 = w.heap.size + 2 from rfl]
 try rw [show w.heap.size + 2 + 1 = w.heap.size + 3 from rfl]
 obtain ⟨pb, hpb⟩ : ∃ pb, pb = w.heap.size := ⟨_, rfl⟩
 have hpw : w.heap.size ≤ pb := by omega
 rw [← hpb] at hB1 ht2 hl2 hU1 ct ⊢
 clear hpb
 generalize ((((w.alloc (.cells #[.int .u32 (W32 (s.1)), .int .u32 (W32 (s.2.1)), .int .u32 (W32 (s.2.2.1)), .int .u32 (W32 (s.2.2.2))] 123)).alloc (.cells #[.slice a n c] 22)).alloc (.cells #[.int .u64 (W64 lo)] 28)).alloc (.cells #[.int .u64 0, .int .u64 0] 30)) = w1 at hF1 hB1 ht2 hl2 hU1 hb1 ct ⊢
 refine (words_any _ _ _ l _ hb1).mono ?_
 rintro e w2 ⟨rfl, hf2⟩
 have hB2 := hB1.fr hf2 (fun h => h)
 have ht3 := Lib.hid (hf2.heap (fun h => h) ht2.out)
 have hl3 := Lib.hid (hf2.heap (fun h => h) hl2.out)
 have hU2 := hU1.no hf2
 have hF2 := hF1.no hf2
 clear hB1 ht2 hl2 hU1 hF1 hf2 hb1 ct
 go_wp2_with fail
 refine (mixers_any _).mono ?_
 rintro e w3 ⟨rfl, hf3⟩
 have hB3 := hB2.fr hf3 (fun h => h)
 have ht4 := Lib.hid (hf3.heap (fun h => h) ht3.out)
 have hl4 := Lib.hid (hf3.heap (fun h => h) hl3.out)
 have hU3 := hU2.no hf3
 have hF3 := hF2.no hf3
 clear hB2 ht3 hl3 hU2 hF2 hf3
 have hmb := hU3.lt
 have hFa : Fr No w3 ((w3.alloc (.cells #[.int .u32 (W32 (num4 l 0)), .int .u32 (W32 (num4 l 4)), .int .u32 (W32 (num4 l 8)), .int .u32 (W32 (num4 l 12))] 123)).alloc (.cells #[.int .u32 597399067, .int .i64 15, .int .u32 2869860233, .int .u32 2869860233, .int .i64 16, .int .u32 951274213, .int .u32 951274213, .int .i64 17, .int .u32 2716044179, .int .u32 2716044179, .int .i64 18, .int .u32 597399067] 253)) := ((Fr.refl No w3).alloc _).alloc _
 have hN4 : Row4 ((w3.alloc (.cells #[.int .u32 (W32 (num4 l 0)), .int .u32 (W32 (num4 l 4)), .int .u32 (W32 (num4 l 8)), .int .u32 (W32 (num4 l 12))] 123)).alloc (.cells #[.int .u32 597399067, .int .i64 15, .int .u32 2869860233, .int .u32 2869860233, .int .i64 16, .int .u32 951274213, .int .u32 951274213, .int .i64 17, .int .u32 2716044179, .int .u32 2716044179, .int .i64 18, .int .u32 597399067] 253)) w3.heap.size 123 (.int .u32 (W32 (num4 l 0))) (.int .u32 (W32 (num4 l 4))) (.int .u32 (W32 (num4 l 8))) (.int .u32 (W32 (num4 l 12))) := (row4_new w3 123 (.int .u32 (W32 (num4 l 0))) (.int .u32 (W32 (num4 l 4))) (.int .u32 (W32 (num4 l 8))) (.int .u32 (W32 (num4 l 12)))).no ((Fr.refl No _).alloc _)
 have hX4 : M12 ((w3.alloc (.cells #[.int .u32 (W32 (num4 l 0)), .int .u32 (W32 (num4 l 4)), .int .u32 (W32 (num4 l 8)), .int .u32 (W32 (num4 l 12))] 123)).alloc (.cells #[.int .u32 597399067, .int .i64 15, .int .u32 2869860233, .int .u32 2869860233, .int .i64 16, .int .u32 951274213, .int .u32 951274213, .int .i64 17, .int .u32 2716044179, .int .u32 2716044179, .int .i64 18, .int .u32 597399067] 253)) (w3.heap.size + 1) 4 := heap_alloc2_new w3 _ _
 have hB4 := hB3.fr hFa (fun h => h)
 have ht5 := Lib.hid (hFa.heap (fun h => h) ht4.out)
 have hl5 := Lib.hid (hFa.heap (fun h => h) hl4.out)
 have hU4 := hU3.no hFa
 have hF4 := hF3.no hFa
 clear hB3 ht4 hl4 hU3 hF3 hFa
 go_wp2_with fail
 generalize ((w3.alloc (.cells #[.int .u32 (W32 (num4 l 0)), .int .u32 (W32 (num4 l 4)), .int .u32 (W32 (num4 l 8)), .int .u32 (W32 (num4 l 12))] 123)).alloc (.cells #[.int .u32 597399067, .int .i64 15, .int .u32 2869860233, .int .u32 2869860233, .int .i64 16, .int .u32 951274213, .int .u32 951274213, .int .i64 17, .int .u32 2716044179, .int .u32 2716044179, .int .i64 18, .int .u32 597399067] 253)) = w4 at hB4 hN4 hX4 ht5 hl5 hU4 hF4 ⊢
 generalize w3.heap.size = mb at hmb hN4 hX4 ⊢
 refine (each2 s pb (pb + 1) (mb + 1) mb a n c l w4 hB4 ht5 hX4 hN4 hlen (by omega) (by omega) (by omega)).mono ?_
 rintro e w5 ⟨s2, hs2, rfl, hB5, hf5⟩
 have hl6 := Lib.hid (hf5.heap (show ¬ pb + 2 = pb by omega) hl5.out)
 have hU5 := hU4.fr hf5 (by omega)
 have hF5 := hF4.trans hf5 (fun x hx => .inr (by omega))
 clear hB4 ht5 hX4 hN4 hl5 hU4 hF4 hf5
 go_wp2_with fail
 refine (each3 s2 pb (pb + 2) lo w5 hB5 hl6 (by omega)).mono ?_
 rintro e w6 ⟨s3, hs3, rfl, hB6, hf6⟩
 have hU6 := hU5.fr hf6 (by omega)
 have hF6 := hF5.trans hf6 (fun x hx => .inr (by omega))
 clear hB5 hl6 hU5 hF5 hf6
 have cb0 := (box_row hB6).c0
 have cb1 := (box_row hB6).c1
 have cb2 := (box_row hB6).c2
 have cb3 := (box_row hB6).c3
 have fb0 := (box_row hB6).fz 0
 have fb1 := (box_row hB6).fz 1
 have fb2 := (box_row hB6).fz 2
 have fb3 := (box_row hB6).fz 3
 go_wp2_with fail
 refine (spread_any s3 _).mono ?_
 rintro e w7 ⟨s4, hs4, rfl, hf7⟩
 clear cb0 fb0 cb1 fb1 cb2 fb2 cb3 fb3
 have hB7 := hB6.fr hf7 (fun h => h)
 have hU7 := hU6.no hf7
 have hF7 := hF6.no hf7
 clear hB6 hU6 hF6 hf7
 have cb0 := (box_row hB7).c0
 have cb1 := (box_row hB7).c1
 have cb2 := (box_row hB7).c2
 have cb3 := (box_row hB7).c3
 have fb0 := (box_row hB7).fz 0
 have fb1 := (box_row hB7).fz 1
 have fb2 := (box_row hB7).fz 2
 have fb3 := (box_row hB7).fz 3
 go_wp2_with fail
 have hf8 := fr_put4 w7 pb (.int .u32 (W32 (s4.1))) (.int .u32 (W32 (s4.2.1))) (.int .u32 (W32 (s4.2.2.1))) (.int .u32 (W32 (s4.2.2.2)))
 have hB8 : BoxAt _ pb s4 := row_put4 (box_row hB7) (.int .u32 (W32 (s4.1))) (.int .u32 (W32 (s4.2.1))) (.int .u32 (W32 (s4.2.2.1))) (.int .u32 (W32 (s4.2.2.2)))
 have hU8 := hU7.fr hf8 (by omega)
 have hF8 := hF7.trans hf8 (fun x hx => .inr (by omega))
 clear cb0 fb0 cb1 fb1 cb2 fb2 cb3 fb3 hB7 hU7 hF7
 generalize (((w7.setCell ⟨pb, 0, none⟩ (.int .u32 (W32 (s4.1)))).setCell ⟨pb, 1, none⟩ (.int .u32 (W32 (s4.2.1)))).setCell ⟨pb, 2, none⟩ (.int .u32 (W32 (s4.2.2.1)))).setCell ⟨pb, 3, none⟩ (.int .u32 (W32 (s4.2.2.2))) = w8 at hf8 hB8 hU8 hF8 ⊢
 clear hf8
 refine (each4 s4 pb w8 hB8).mono ?_
 rintro e w9 ⟨s5, hs5, rfl, hB9, hf9⟩
 have hU9 := hU8.fr hf9 (by omega)
 have hF9 := hF8.trans hf9 (fun x hx => .inr (by omega))
 clear hB8 hU8 hF8 hf9
 have cb0 := (box_row hB9).c0
 have cb1 := (box_row hB9).c1
 have cb2 := (box_row hB9).c2
 have cb3 := (box_row hB9).c3
 go_wp2_with fail
 refine (spread_any s5 _).mono ?_
 rintro e wA ⟨s6, hs6, rfl, hfA⟩
 clear cb0 cb1 cb2 cb3
 have hUA := hU9.no hfA
 have hFA := hF9.no hfA
 clear hB9 hU9 hF9 hfA
 go_wp2_with fail
 refine (wide_any s6 _).mono ?_
 rintro e wB ⟨rfl, hfB⟩
 have hUB := hUA.no hfB
 have hFB := hFA.no hfB
 clear hUA hFA hfB
 unfold lanesV
 have hUC := hUB.no ((Fr.refl No wB).alloc (.cells #[.int .u64 (W64 (s6.1.setWidth 64)), .int .u64 (W64 (s6.2.1.setWidth 64)), .int .u64 (W64 (s6.2.2.1.setWidth 64)), .int .u64 (W64 (s6.2.2.2.setWidth 64))] 31))
 have hFC := hFB.alloc (.cells #[.int .u64 (W64 (s6.1.setWidth 64)), .int .u64 (W64 (s6.2.1.setWidth 64)), .int .u64 (W64 (s6.2.2.1.setWidth 64)), .int .u64 (W64 (s6.2.2.2.setWidth 64))] 31)
 have cr0 := hUC.c0
 have cr1 := hUC.c1
 have fr0 := hUC.fz 0
 have fr1 := hUC.fz 1
 go_wp2_with fail
 rw [join_or, join_or]
 have hE : s6 = endS s l lo := by rw [hs6.out, hs5.out, hs4.out, hs3.out, hs2.out, endS_def]
 have e1 : joinF s6.2.2.2 s6.2.2.1 = endHi s l lo := by
  show lastHi s6 = lastHi (endS s l lo)
  rw [hE]
 have e2 : joinF s6.2.1 s6.1 = endLo s l lo := by
  show lastLo s6 = lastLo (endS s l lo)
  rw [hE]
 have E1 := Lib.hid e1
 have E2 := Lib.hid e2
 clear hE e1 e2 cr0 cr1 fr0 fr1
 have hF9 := hFC.trans (fr_put2 (wB.alloc (.cells #[.int .u64 (W64 (s6.1.setWidth 64)), .int .u64 (W64 (s6.2.1.setWidth 64)), .int .u64 (W64 (s6.2.2.1.setWidth 64)), .int .u64 (W64 (s6.2.2.2.setWidth 64))] 31)) (pb + 3) (.int .u64 (W64 (joinF s6.2.2.2 s6.2.2.1))) (.int .u64 (W64 (joinF s6.2.1 s6.1)))) (fun x hx => .inr (by omega))
 have hR9 := row_put2 hUC (.int .u64 (W64 (joinF s6.2.2.2 s6.2.2.1))) (.int .u64 (W64 (joinF s6.2.1 s6.1)))
 generalize ((wB.alloc (.cells #[.int .u64 (W64 (s6.1.setWidth 64)), .int .u64 (W64 (s6.2.1.setWidth 64)), .int .u64 (W64 (s6.2.2.1.setWidth 64)), .int .u64 (W64 (s6.2.2.2.setWidth 64))] 31)).setCell ⟨pb + 3, 0, none⟩ (.int .u64 (W64 (joinF s6.2.2.2 s6.2.2.1)))).setCell ⟨pb + 3, 1, none⟩ (.int .u64 (W64 (joinF s6.2.1 s6.1))) = w9 at hF9 hR9 ⊢
 have cd0 := hR9.c0
 have cd1 := hR9.c1
 refine bodyPost_ret (v := .agg #[.int .u64 (W64 (joinF s6.2.2.2 s6.2.2.1)), .int .u64 (W64 (joinF s6.2.1 s6.1))]) (by simp [results, Tryz.results129, go_sem, cd0, cd1]) rfl ?_
 exact ⟨by rw [E1.out, E2.out], hF9⟩
end Go.Proofs.YtidlpihoafnobaaGreatDoor.StM86
namespace Go.Proofs.YtidlpihoafnobaaGreatDoor.StM86
set_option maxRecDepth 100000
open Go.Proofs.YtidlpihoafnobaaGreatDoor.StG32
open Go.RowKit
theorem refC0 (w : World) : Calls Tryz.prog 110 #[.int .i64 0] w (GivesNew (.int .u32 597399067) w) := by
 have em2 : (0 : Int).tmod 4 = 0 := by decide
 go_enter Tryz.func110, Tryz.ntmps110
 go_wp2_with fail
 go_ret
 exact ⟨rfl, (Fr.refl No w).alloc _⟩
theorem refC1 (w : World) : Calls Tryz.prog 110 #[.int .i64 1] w (GivesNew (.int .u32 2869860233) w) := by
 have em2 : (1 : Int).tmod 4 = 1 := by decide
 go_enter Tryz.func110, Tryz.ntmps110
 go_wp2_with fail
 go_ret
 exact ⟨rfl, (Fr.refl No w).alloc _⟩
theorem refC2 (w : World) : Calls Tryz.prog 110 #[.int .i64 2] w (GivesNew (.int .u32 951274213) w) := by
 have em2 : (2 : Int).tmod 4 = 2 := by decide
 go_enter Tryz.func110, Tryz.ntmps110
 go_wp2_with fail
 go_ret
 exact ⟨rfl, (Fr.refl No w).alloc _⟩
theorem refC3 (w : World) : Calls Tryz.prog 110 #[.int .i64 3] w (GivesNew (.int .u32 2716044179) w) := by
 have em2 : (3 : Int).tmod 4 = 3 := by decide
 go_enter Tryz.func110, Tryz.ntmps110
 go_wp2_with fail
 go_ret
 exact ⟨rfl, (Fr.refl No w).alloc _⟩
theorem refC4 (w : World) : Calls Tryz.prog 110 #[.int .i64 4] w (GivesNew (.int .u32 597399067) w) := by
 have em2 : (4 : Int).tmod 4 = 0 := by decide
 go_enter Tryz.func110, Tryz.ntmps110
 go_wp2_with fail
 go_ret
 exact ⟨rfl, (Fr.refl No w).alloc _⟩
theorem refWord0 (x : BitVec 64) (w : World) : Calls Tryz.prog 64 #[.int .u64 (W64 x), .int .i64 0] w (GivesNew (.int .u32 (W32 (w0 (x.setWidth 32)))) w) := by
 have em : IntKind.i64.wrap 15 = 15 := by decide
 have em1 : IntKind.i64.wrap 1 = 1 := by decide
 go_enter Tryz.func64, Tryz.ntmps64
 go_wp2_with fail
 refine (refC0 _).mono ?_
 rintro e w1 ⟨rfl, hf1⟩
 go_wp2_with fail
 refine (refRot32_any _ 15 _ (by omega) (by omega)).mono ?_
 rintro e w' ⟨rfl, rfl⟩
 go_wp2_with fail
 refine (refC1 _).mono ?_
 rintro e w2 ⟨rfl, hf2⟩
 go_wp2_with fail
 rw [w0_def]
 go_ret
 exact ⟨rfl, hf1.no hf2⟩
theorem refWord1 (x : BitVec 64) (w : World) : Calls Tryz.prog 64 #[.int .u64 (W64 x), .int .i64 1] w (GivesNew (.int .u32 (W32 (w1 (x.setWidth 32)))) w) := by
 have em : IntKind.i64.wrap 16 = 16 := by decide
 have em1 : IntKind.i64.wrap 2 = 2 := by decide
 go_enter Tryz.func64, Tryz.ntmps64
 go_wp2_with fail
 refine (refC1 _).mono ?_
 rintro e w1 ⟨rfl, hf1⟩
 go_wp2_with fail
 refine (refRot32_any _ 16 _ (by omega) (by omega)).mono ?_
 rintro e w' ⟨rfl, rfl⟩
 go_wp2_with fail
 refine (refC2 _).mono ?_
 rintro e w2 ⟨rfl, hf2⟩
 go_wp2_with fail
 rw [w1_def]
 go_ret
 exact ⟨rfl, hf1.no hf2⟩
theorem refWord2 (x : BitVec 64) (w : World) : Calls Tryz.prog 64 #[.int .u64 (W64 x), .int .i64 2] w (GivesNew (.int .u32 (W32 (w2 (x.setWidth 32)))) w) := by
 have em : IntKind.i64.wrap 17 = 17 := by decide
 have em1 : IntKind.i64.wrap 3 = 3 := by decide
 go_enter Tryz.func64, Tryz.ntmps64
 go_wp2_with fail
 refine (refC2 _).mono ?_
 rintro e w1 ⟨rfl, hf1⟩
 go_wp2_with fail
 refine (refRot32_any _ 17 _ (by omega) (by omega)).mono ?_
 rintro e w' ⟨rfl, rfl⟩
 go_wp2_with fail
 refine (refC3 _).mono ?_
 rintro e w2 ⟨rfl, hf2⟩
 go_wp2_with fail
 rw [w2_def]
 go_ret
 exact ⟨rfl, hf1.no hf2⟩
theorem refWord3 (x : BitVec 64) (w : World) : Calls Tryz.prog 64 #[.int .u64 (W64 x), .int .i64 3] w (GivesNew (.int .u32 (W32 (w3 (x.setWidth 32)))) w) := by
 have em : IntKind.i64.wrap 18 = 18 := by decide
 have em1 : IntKind.i64.wrap 4 = 4 := by decide
 go_enter Tryz.func64, Tryz.ntmps64
 go_wp2_with fail
 refine (refC3 _).mono ?_
 rintro e w1 ⟨rfl, hf1⟩
 go_wp2_with fail
 refine (refRot32_any _ 18 _ (by omega) (by omega)).mono ?_
 rintro e w' ⟨rfl, rfl⟩
 go_wp2_with fail
 refine (refC4 _).mono ?_
 rintro e w2 ⟨rfl, hf2⟩
 go_wp2_with fail
 rw [w3_def]
 go_ret
 exact ⟨rfl, hf1.no hf2⟩
def GivesLanes (a : Option Addr) (n c : Nat) (l : Bytes) (r : ST × Bytes) (w : World) (e : Ending) (w' : World) : Prop :=
 ∃ a' n' c', e = .returned (.tuple #[lanesV r.1, .slice a' n' c']) ∧ IsBytes w' a' n' c' r.2 ∧ (∀ w2, IsBytes w2 a n c l → IsBytes w2 a' n' c' r.2) ∧ Fr No w w'
theorem flat_gen (f0 f1 f2 f3 : BitVec 32 → BitVec 32) (t0 t1 t2 t3 : BitVec 32 → BitVec 32 → BitVec 32) (s : S4) :
 ((t0 (f0 s.1) s.2.1, t1 (f1 s.2.1) s.2.2.1, t2 (f2 s.2.2.1) s.2.2.2, t3 (f3 s.2.2.2) (t0 (f0 s.1) s.2.1)) : S4) =
  (fun q : S4 => ((q.1, q.2.1, q.2.2.1, t3 (f3 q.2.2.2) q.1) : S4)) ((fun q : S4 => ((q.1, q.2.1, t2 (f2 q.2.2.1) q.2.2.2, q.2.2.2) : S4)) ((fun q : S4 => ((q.1, t1 (f1 q.2.1) q.2.2.1, q.2.2.1, q.2.2.2) : S4)) ((fun q : S4 => ((t0 (f0 q.1) q.2.1, q.2.1, q.2.2.1, q.2.2.2) : S4)) s))) := rfl
theorem stepG_flat (s : S4) (l : Bytes) : ((turn0 (mix0 s l) s.2.1, turn1 (mix1 s l) s.2.2.1, turn2 (mix2 s l) s.2.2.2, turn3 (mix3 s l) (turn0 (mix0 s l) s.2.1)) : S4) = stepG s l := by
 exact flat_gen (fun x => x ^^^ w0 (num4 l 0)) (fun x => x ^^^ w1 (num4 l 4)) (fun x => x ^^^ w2 (num4 l 8)) (fun x => x ^^^ w3 (num4 l 12)) turn0 turn1 turn2 turn3 s
set_option maxHeartbeats 4000000 in
theorem refFrom_any (x0 x1 x2 x3 : BitVec 64) (s : ST) (a : Option Addr) (n c : Nat) (l : Bytes) (w : World) (hs : Hid ((x0.setWidth 32, x1.setWidth 32, x2.setWidth 32, x3.setWidth 32) = s)) (h : IsBytes w a n c l) (hn : n ≤ 1099511627776) :
 Calls Tryz.prog 173 #[.agg #[.int .u64 (W64 (x0)), .int .u64 (W64 (x1)), .int .u64 (W64 (x2)), .int .u64 (W64 (x3))], .slice a n c] w (GivesLanes a n c l (foldF stepG 16 s l) w) := by
 obtain ⟨r, hr⟩ : ∃ r, r = foldF stepG 16 s l := ⟨_, rfl⟩
 rw [← hr]
 have HR := Lib.hid hr
 clear hr
 have hF : Fr No w ((w.alloc (.cells #[.int .u64 (W64 (x0)), .int .u64 (W64 (x1)), .int .u64 (W64 (x2)), .int .u64 (W64 (x3))] 31)).alloc (.cells #[.int .u64 0, .int .u64 0, .int .u64 0, .int .u64 0] 31)) := ((Fr.refl No w).alloc _).alloc _
 have hR0 : Row4 ((w.alloc (.cells #[.int .u64 (W64 (x0)), .int .u64 (W64 (x1)), .int .u64 (W64 (x2)), .int .u64 (W64 (x3))] 31)).alloc (.cells #[.int .u64 0, .int .u64 0, .int .u64 0, .int .u64 0] 31)) (w.heap.size + 1) 31 (.int .u64 0) (.int .u64 0) (.int .u64 0) (.int .u64 0) := heap_alloc2_new w _ _
 go_enter Tryz.func173, Tryz.ntmps173
 go_wp2
 go_loopw [1, 6, 7, 8, 9] (fun v u0 u1 u2 u3 wr => ∃ m a' c' l' s', v = .slice a' m c' ∧ u0 = .int .u32 (W32 s'.1) ∧ u1 = .int .u32 (W32 s'.2.1) ∧ u2 = .int .u32 (W32 s'.2.2.1) ∧ u3 = .int .u32 (W32 s'.2.2.2) ∧ IsBytes w a' m c' l' ∧ (∀ w2, IsBytes w2 a n c l → IsBytes w2 a' m c' l') ∧ Row4 wr (w.heap.size + 1) 31 (.int .u64 0) (.int .u64 0) (.int .u64 0) (.int .u64 0) ∧ Fr No w wr ∧ Hid (foldF stepG 16 (s' : S4) l' = r)) (fun v _ _ _ _ _ => match v with | .slice _ m _ => m | _ => 0)
 case atStart =>
  refine ⟨n, a, c, l, (x0.setWidth 32, x1.setWidth 32, x2.setWidth 32, x3.setWidth 32), rfl, rfl, rfl, rfl, rfl, h, fun _ h => h, hR0, hF, ?_⟩
  show _ = _
  rw [hs.out, HR.out]
 case round =>
  obtain ⟨m, a', c', l', s', rfl, rfl, rfl, rfl, rfl, hb, hst, hRx, hfx, hr'⟩ := hrel
  clear hF hR0
  have hlen := Lib.hid hb.1
  have hc : m ≤ c' := hb.2.1
  have hc2 : c' ≤ 9223372036854775807 := hb.2.2.1
  by_cases hlt : 16 ≤ m
  · have i1 : (16 : Int) ≤ (m : Int) := by omega
    have i2 : (16 : Int) ≤ (c' : Int) := by omega
    have hcut := hb.cut_to_end 16 (n' := m - 16) (c' := c' - 16) hlt rfl rfl
    go_wp2_with fail
    refine (refNum_any _ _ _ l' 0 4 _ (hb.no (hfx)) (by omega) (by omega) (by omega) (by omega)).mono ?_
    rintro e w' ⟨rfl, rfl⟩
    go_wp2_with fail
    refine (refWord0 _ _).mono ?_
    rw [num4_zero]
    rintro e u0 ⟨rfl, hf0⟩
    go_wp2_with fail
    rw [mix0_def]
    refine (refRot32_any _ 19 _ (by omega) (by omega)).mono ?_
    rintro e w' ⟨rfl, rfl⟩
    go_wp2_with fail
    rw [turn0_def]
    obtain ⟨y0, hy0⟩ : ∃ y, y = turn0 (mix0 s' l') (s'.2.1) := ⟨_, rfl⟩
    rw [← hy0]
    have Hy0 := Lib.hid hy0
    clear hy0
    try go_wp2_with fail
    refine (refNum_any _ _ _ l' 4 4 _ (hb.no ((hfx.no hf0))) (by omega) (by omega) (by omega) (by omega)).mono ?_
    rintro e w' ⟨rfl, rfl⟩
    go_wp2_with fail
    refine (refWord1 _ _).mono ?_
    rw [num4_def]
    rintro e u1 ⟨rfl, hf1⟩
    go_wp2_with fail
    rw [mix1_def]
    refine (refRot32_any _ 17 _ (by omega) (by omega)).mono ?_
    rintro e w' ⟨rfl, rfl⟩
    go_wp2_with fail
    rw [turn1_def]
    obtain ⟨y1, hy1⟩ : ∃ y, y = turn1 (mix1 s' l') (s'.2.2.1) := ⟨_, rfl⟩
    rw [← hy1]
    have Hy1 := Lib.hid hy1
    clear hy1
    try go_wp2_with fail
    refine (refNum_any _ _ _ l' 8 4 _ (hb.no (((hfx.no hf0).no hf1))) (by omega) (by omega) (by omega) (by omega)).mono ?_
    rintro e w' ⟨rfl, rfl⟩
    go_wp2_with fail
    refine (refWord2 _ _).mono ?_
    rw [num4_def]
    rintro e u2 ⟨rfl, hf2⟩
    go_wp2_with fail
    rw [mix2_def]
    refine (refRot32_any _ 15 _ (by omega) (by omega)).mono ?_
    rintro e w' ⟨rfl, rfl⟩
    go_wp2_with fail
    rw [turn2_def]
    obtain ⟨y2, hy2⟩ : ∃ y, y = turn2 (mix2 s' l') (s'.2.2.2) := ⟨_, rfl⟩
    rw [← hy2]
    have Hy2 := Lib.hid hy2
    clear hy2
    try go_wp2_with fail
    refine (refNum_any _ _ _ l' 12 4 _ (hb.no ((((hfx.no hf0).no hf1).no hf2))) (by omega) (by omega) (by omega) (by omega)).mono ?_
    rintro e w' ⟨rfl, rfl⟩
    go_wp2_with fail
    refine (refWord3 _ _).mono ?_
    rw [num4_def]
    rintro e u3 ⟨rfl, hf3⟩
    go_wp2_with fail
    rw [mix3_def]
    refine (refRot32_any _ 13 _ (by omega) (by omega)).mono ?_
    rintro e w' ⟨rfl, rfl⟩
    go_wp2_with fail
    rw [turn3_def]
    obtain ⟨y3, hy3⟩ : ∃ y, y = turn3 (mix3 s' l') (y0) := ⟨_, rfl⟩
    rw [← hy3]
    have Hy3 := Lib.hid hy3
    clear hy3
    have hf4 := (((hfx.no hf0).no hf1).no hf2).no hf3
    have hR4 := (((hRx.no hf0).no hf1).no hf2).no hf3
    clear hRx hfx hf0 hf1 hf2 hf3
    go_wp2_with fail
    go_roundw
    case rel =>
     refine ⟨m - 16, _, _, _, (y0, y1, y2, y3), rfl, rfl, rfl, rfl, rfl, hcut, fun w2 h2 => (hst w2 h2).cut_to_end 16 hlt rfl rfl, hR4, hf4, ?_⟩
     show _ = _
     rw [← hr'.out, foldF_step (s := s') (l := l') (by omega) (by rw [hlen.out]; exact hlt), Hy3.out, Hy2.out, Hy1.out, Hy0.out, stepG_flat, stepG_take]
     rfl
    case measure => simp; omega
  · have i1 : (m : Int) < 16 := by omega
    have HS := Lib.hid (foldF_short (F := stepG) (size := 16) (s := s') (l := l') (by rw [hlen.out]; omega))
    have cr0 := hRx.c0
    have cr1 := hRx.c1
    have cr2 := hRx.c2
    have cr3 := hRx.c3
    have fr0 := hRx.fz 0
    have fr1 := hRx.fz 1
    have fr2 := hRx.fz 2
    have fr3 := hRx.fz 3
    go_wp2_with fail
    have hF3 := fr_put4 wr (w.heap.size + 1) (.int .u64 (W64 (s'.1.setWidth 64))) (.int .u64 (W64 (s'.2.1.setWidth 64))) (.int .u64 (W64 (s'.2.2.1.setWidth 64))) (.int .u64 (W64 (s'.2.2.2.setWidth 64)))
    have hR3 := row_put4 hRx (.int .u64 (W64 (s'.1.setWidth 64))) (.int .u64 (W64 (s'.2.1.setWidth 64))) (.int .u64 (W64 (s'.2.2.1.setWidth 64))) (.int .u64 (W64 (s'.2.2.2.setWidth 64)))
    clear cr0 cr1 cr2 cr3 fr0 fr1 fr2 fr3
    generalize (((wr.setCell ⟨w.heap.size + 1, 0, none⟩ (.int .u64 (W64 (s'.1.setWidth 64)))).setCell ⟨w.heap.size + 1, 1, none⟩ (.int .u64 (W64 (s'.2.1.setWidth 64)))).setCell ⟨w.heap.size + 1, 2, none⟩ (.int .u64 (W64 (s'.2.2.1.setWidth 64)))).setCell ⟨w.heap.size + 1, 3, none⟩ (.int .u64 (W64 (s'.2.2.2.setWidth 64))) = w3 at hF3 hR3 ⊢
    have cd0 := hR3.c0
    have cd1 := hR3.c1
    have cd2 := hR3.c2
    have cd3 := hR3.c3
    have hFe : Fr No w w3 := hfx.trans hF3 (fun x hx => .inr (by omega))
    refine bodyPost_ret (v := .tuple #[lanesV s', .slice a' m c']) (by simp [results, Tryz.results173, go_sem, cd0, cd1, cd2, cd3, lanesV]) rfl ?_
    refine ⟨a', m, c', by rw [← hr'.out, HS.out], ?_, ?_, hFe⟩
    · rw [← hr'.out, HS.out]; exact hb.no hFe
    · rw [← hr'.out, HS.out]; exact hst
end Go.Proofs.YtidlpihoafnobaaGreatDoor.StM86
