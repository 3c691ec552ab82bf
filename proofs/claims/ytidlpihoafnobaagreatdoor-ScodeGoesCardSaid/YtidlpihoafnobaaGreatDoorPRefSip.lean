/- RefSip -/
import Derived.Test.YtidlpihoafnobaaGreatDoorPEndSip
set_option linter.unusedVariables false
set_option linter.unusedSimpArgs false
namespace Go.Proofs.YtidlpihoafnobaaGreatDoor.StSip
set_option maxRecDepth 100000
open Go.Proofs.YtidlpihoafnobaaGreatDoor.StG64
open Go.RowKit
theorem heap_alloc3_new (w : World) (A B D : Obj) : (((w.alloc A).alloc B).alloc D).heap[w.heap.size + 2]? = some D := by
 have h := heap_alloc2_new (w.alloc A) B D
 rw [show (w.alloc A).heap.size = w.heap.size + 1 from by show (w.heap.push A).size = _; simp] at h
 exact h
theorem roundF_ref (a b c d e f y1 x2 y3 : BitVec 64) (s : ST) (h : (a = s.1 + s.2.1 ∧ b = rotl64 s.2.1 13 ^^^ a ∧ c = s.2.2.1 + s.2.2.2 ∧ d = rotl64 s.2.2.2 16 ^^^ c ∧ e = rotl64 a 32 + d ∧ f = c + b ∧ y1 = rotl64 b 17 ∧ x2 = rotl64 f 32 ∧ y3 = rotl64 d 21)) :
 ((e, y1 ^^^ f, x2, y3 ^^^ e) : ST) = roundF s := by
 obtain ⟨rfl, rfl, rfl, rfl, rfl, rfl, rfl, rfl, rfl⟩ := h
 rfl
set_option maxHeartbeats 2000000 in
theorem refRounds_any (s : ST) (n : Nat) (hn : n ≤ 100) (w : World) : Calls Tryz.prog 72 #[lanesV s, .int .i64 n] w (GivesNew (lanesV (roundsF n s)) w) := by
 unfold lanesV
 have hA := At.new w s
 go_enter Tryz.func72, Tryz.ntmps72
 go_wp2
 generalize w.heap.size = pb at hA ⊢
 generalize ((w.alloc (.cells #[.int .u64 (W64 s.1), .int .u64 (W64 s.2.1), .int .u64 (W64 s.2.2.1), .int .u64 (W64 s.2.2.2)] 31)).alloc (.cells #[.int .u64 0, .int .u64 0, .int .u64 0, .int .u64 0] 31)) = w1 at hA ⊢
 go_loopw [5] (fun i wr => ∃ (k : Nat) (s' : ST), k ≤ n ∧ i = .int .i64 k ∧ At w wr pb s' ∧ Hid (s' = roundsF k s)) (fun i _ => n - (intOf i).toNat)
 case atStart => exact ⟨0, s, by omega, rfl, hA, rfl⟩
 case round =>
  obtain ⟨k, s0, hk, rfl, hA0, hs0⟩ := hrel
  clear hA
  obtain ⟨w0, rfl⟩ : ∃ w0 : World, w0 = wr := ⟨_, rfl⟩
  by_cases hlt : k < n
  · have i1 : (k : Int) < (n : Int) := by omega
    have q0 := hA0.row.c0
    have q1 := hA0.row.c1
    have q2 := hA0.row.c2
    have q3 := hA0.row.c3
    have z0 := hA0.row.fz 0
    have z1 := hA0.row.fz 1
    have z2 := hA0.row.fz 2
    have z3 := hA0.row.fz 3
    go_upto_region 5 with fail
    obtain ⟨a, ha⟩ : ∃ z, z = s0.1 + s0.2.1 := ⟨_, rfl⟩
    rw [← ha]
    have Ha := Lib.hid ha
    clear ha
    go_wp2_with fail
    refine (refRot64_any _ 13 _ (by omega) (by omega)).mono ?_
    rintro e w' ⟨rfl, rfl⟩
    go_upto_region 6 with fail
    obtain ⟨b, hb⟩ : ∃ z, z = rotl64 s0.2.1 13 ^^^ a := ⟨_, rfl⟩
    rw [← hb]
    have Hb := Lib.hid hb
    clear hb
    go_upto_region 7 with fail
    obtain ⟨c, hc⟩ : ∃ z, z = s0.2.2.1 + s0.2.2.2 := ⟨_, rfl⟩
    rw [← hc]
    have Hc := Lib.hid hc
    clear hc
    go_wp2_with fail
    refine (refRot64_any _ 16 _ (by omega) (by omega)).mono ?_
    rintro e w' ⟨rfl, rfl⟩
    go_upto_region 8 with fail
    obtain ⟨d, hd⟩ : ∃ z, z = rotl64 s0.2.2.2 16 ^^^ c := ⟨_, rfl⟩
    rw [← hd]
    have Hd := Lib.hid hd
    clear hd
    go_wp2_with fail
    refine (refRot64_any _ 32 _ (by omega) (by omega)).mono ?_
    rintro e w' ⟨rfl, rfl⟩
    go_upto_region 9 with fail
    obtain ⟨e, he⟩ : ∃ z, z = rotl64 a 32 + d := ⟨_, rfl⟩
    rw [← he]
    have He := Lib.hid he
    clear he
    go_upto_region 10 with fail
    obtain ⟨f, hf⟩ : ∃ z, z = c + b := ⟨_, rfl⟩
    rw [← hf]
    have Hf := Lib.hid hf
    clear hf
    go_wp2_with fail
    refine (refRot64_any _ 17 _ (by omega) (by omega)).mono ?_
    rintro e w' ⟨rfl, rfl⟩
    obtain ⟨y1, hy1⟩ : ∃ z, z = rotl64 b 17 := ⟨_, rfl⟩
    rw [← hy1]
    have Hy1 := Lib.hid hy1
    clear hy1
    go_wp2_with fail
    refine (refRot64_any _ 32 _ (by omega) (by omega)).mono ?_
    rintro e w' ⟨rfl, rfl⟩
    obtain ⟨x2, hx2⟩ : ∃ z, z = rotl64 f 32 := ⟨_, rfl⟩
    rw [← hx2]
    have Hx2 := Lib.hid hx2
    clear hx2
    go_wp2_with fail
    refine (refRot64_any _ 21 _ (by omega) (by omega)).mono ?_
    rintro e w' ⟨rfl, rfl⟩
    obtain ⟨y3, hy3⟩ : ∃ z, z = rotl64 d 21 := ⟨_, rfl⟩
    rw [← hy3]
    have Hy3 := Lib.hid hy3
    clear hy3
    go_wp2_with fail
    have hA1 : At w ((((w0.setCell ⟨pb, 0, none⟩ (.int .u64 (W64 (e)))).setCell ⟨pb, 1, none⟩ (.int .u64 (W64 (y1 ^^^ f)))).setCell ⟨pb, 2, none⟩ (.int .u64 (W64 (x2)))).setCell ⟨pb, 3, none⟩ (.int .u64 (W64 (y3 ^^^ e)))) pb ((e, y1 ^^^ f, x2, y3 ^^^ e) : ST) := hA0.of (fr_put4 w0 pb (.int .u64 (W64 (e))) (.int .u64 (W64 (y1 ^^^ f))) (.int .u64 (W64 (x2))) (.int .u64 (W64 (y3 ^^^ e)))) (row_put4 hA0.row (.int .u64 (W64 (e))) (.int .u64 (W64 (y1 ^^^ f))) (.int .u64 (W64 (x2))) (.int .u64 (W64 (y3 ^^^ e))))
    rw [roundF_ref a b c d e f y1 x2 y3 s0 ⟨Ha.out, Hb.out, Hc.out, Hd.out, He.out, Hf.out, Hy1.out, Hx2.out, Hy3.out⟩] at hA1
    clear q0 q1 q2 q3 z0 z1 z2 z3 hA0
    go_roundw
    case rel => exact ⟨k + 1, _, by omega, by simp, hA1, by show _ = _; rw [roundsF_succ, ← hs0.out]⟩
    case measure => simp [intOf]; omega
  · have i1 : (n : Int) ≤ (k : Int) := by omega
    have hkn : k = n := by omega
    have HK := Lib.hid hkn
    clear hkn
    have cb0 := hA0.row.c0
    have cb1 := hA0.row.c1
    have cb2 := hA0.row.c2
    have cb3 := hA0.row.c3
    have cr0 := hA0.res.c0
    have cr1 := hA0.res.c1
    have cr2 := hA0.res.c2
    have cr3 := hA0.res.c3
    have fr0 := hA0.res.fz 0
    have fr1 := hA0.res.fz 1
    have fr2 := hA0.res.fz 2
    have fr3 := hA0.res.fz 3
    go_wp2_with fail
    have hF3 := fr_put4 w0 (pb + 1) (.int .u64 (W64 s0.1)) (.int .u64 (W64 s0.2.1)) (.int .u64 (W64 s0.2.2.1)) (.int .u64 (W64 s0.2.2.2))
    have hR3 := row_put4 hA0.res (.int .u64 (W64 s0.1)) (.int .u64 (W64 s0.2.1)) (.int .u64 (W64 s0.2.2.1)) (.int .u64 (W64 s0.2.2.2))
    clear cr0 fr0 cr1 fr1 cr2 fr2 cr3 fr3
    generalize (((w0.setCell ⟨pb + 1, 0, none⟩ (.int .u64 (W64 s0.1))).setCell ⟨pb + 1, 1, none⟩ (.int .u64 (W64 s0.2.1))).setCell ⟨pb + 1, 2, none⟩ (.int .u64 (W64 s0.2.2.1))).setCell ⟨pb + 1, 3, none⟩ (.int .u64 (W64 s0.2.2.2)) = w3 at hF3 hR3 ⊢
    have cd0 := hR3.c0
    have cd1 := hR3.c1
    have cd2 := hR3.c2
    have cd3 := hR3.c3
    refine bodyPost_ret (v := lanesV s0) (by simp [results, Tryz.results72, go_sem, cd0, cd1, cd2, cd3, lanesV]) rfl ?_
    exact ⟨by rw [hs0.out, HK.out]; rfl, hA0.fr.trans hF3 (fun x hx => .inr (by have := hA0.ge; omega))⟩
set_option maxHeartbeats 2000000 in
theorem refWord_any (kd : Int) (hk : IsK kd) (s : ST) (m : BitVec 64) (w : World) : Calls Tryz.prog 71 #[.int .i64 kd, lanesV s, .int .u64 (W64 m)] w (GivesNew (lanesV (wordF (cOf kd) s m)) w) := by
 unfold lanesV
 have hA := At.new w s
 go_enter Tryz.func71, Tryz.ntmps71
 go_upto_region 1 with fail
 generalize w.heap.size = pb at hA ⊢
 generalize ((w.alloc (.cells #[.int .u64 (W64 s.1), .int .u64 (W64 s.2.1), .int .u64 (W64 s.2.2.1), .int .u64 (W64 s.2.2.2)] 31)).alloc (.cells #[.int .u64 0, .int .u64 0, .int .u64 0, .int .u64 0] 31)) = w1 at hA ⊢
 have q0 := hA.row.c0
 have q1 := hA.row.c1
 have q2 := hA.row.c2
 have q3 := hA.row.c3
 have z0 := hA.row.fz 0
 have z1 := hA.row.fz 1
 have z2 := hA.row.fz 2
 have z3 := hA.row.fz 3
 go_upto_region 2 with fail
 have hA2 := hA.put3 (s.2.2.2 ^^^ m)
 clear q0 q1 q2 q3 z0 z1 z2 z3 hA
 generalize w1.setCell ⟨pb, 3, none⟩ (.int .u64 (W64 (s.2.2.2 ^^^ m))) = w2 at hA2 ⊢
 obtain ⟨s2, hs2⟩ : ∃ z : ST, z = (s.1, s.2.1, s.2.2.1, s.2.2.2 ^^^ m) := ⟨_, rfl⟩
 rw [← hs2] at hA2
 have HS2 := Lib.hid hs2
 clear hs2
 by_cases h7 : kd = 7
 · have HC : Hid (cOf kd = 1) := by show _ = _; rw [h7]; rfl
   subst h7
   clear hk
   have q0 := hA2.row.c0
   have q1 := hA2.row.c1
   have q2 := hA2.row.c2
   have q3 := hA2.row.c3
   have z0 := hA2.row.fz 0
   have z1 := hA2.row.fz 1
   have z2 := hA2.row.fz 2
   have z3 := hA2.row.fz 3
   go_wp2_with fail
   refine (refRounds_any s2 1 (by omega) _).mono ?_
   rintro e w3 ⟨rfl, hf3⟩
   have hA3 := hA2.no hf3
   clear q0 q1 q2 q3 z0 z1 z2 z3 hA2 hf3
   obtain ⟨t, ht⟩ : ∃ z, z = roundsF 1 s2 := ⟨_, rfl⟩
   rw [← ht]
   have Ht := Lib.hid ht
   clear ht
   unfold lanesV
   have q0 := hA3.row.c0
   have q1 := hA3.row.c1
   have q2 := hA3.row.c2
   have q3 := hA3.row.c3
   have z0 := hA3.row.fz 0
   have z1 := hA3.row.fz 1
   have z2 := hA3.row.fz 2
   have z3 := hA3.row.fz 3
   go_upto_region 5 with fail
   have hA4 := hA3.put t
   clear q0 q1 q2 q3 z0 z1 z2 z3 hA3
   generalize ((((w3.setCell ⟨pb, 0, none⟩ (.int .u64 (W64 t.1))).setCell ⟨pb, 1, none⟩ (.int .u64 (W64 t.2.1))).setCell ⟨pb, 2, none⟩ (.int .u64 (W64 t.2.2.1))).setCell ⟨pb, 3, none⟩ (.int .u64 (W64 t.2.2.2))) = w4 at hA4 ⊢
   have q0 := hA4.row.c0
   have q1 := hA4.row.c1
   have q2 := hA4.row.c2
   have q3 := hA4.row.c3
   have z0 := hA4.row.fz 0
   have z1 := hA4.row.fz 1
   have z2 := hA4.row.fz 2
   have z3 := hA4.row.fz 3
   go_upto_region 6 with fail
   have hA5 := hA4.put0 (t.1 ^^^ m)
   clear q0 q1 q2 q3 z0 z1 z2 z3 hA4
   generalize w4.setCell ⟨pb, 0, none⟩ (.int .u64 (W64 (t.1 ^^^ m))) = w5 at hA5 ⊢
   obtain ⟨s5, hs5⟩ : ∃ z : ST, z = (t.1 ^^^ m, t.2.1, t.2.2.1, t.2.2.2) := ⟨_, rfl⟩
   rw [← hs5] at hA5
   have HS5 := Lib.hid hs5
   clear hs5
   have cb0 := hA5.row.c0
   have cb1 := hA5.row.c1
   have cb2 := hA5.row.c2
   have cb3 := hA5.row.c3
   have cr0 := hA5.res.c0
   have cr1 := hA5.res.c1
   have cr2 := hA5.res.c2
   have cr3 := hA5.res.c3
   have fr0 := hA5.res.fz 0
   have fr1 := hA5.res.fz 1
   have fr2 := hA5.res.fz 2
   have fr3 := hA5.res.fz 3
   go_wp2_with fail
   have hF3 := fr_put4 w5 (pb + 1) (.int .u64 (W64 s5.1)) (.int .u64 (W64 s5.2.1)) (.int .u64 (W64 s5.2.2.1)) (.int .u64 (W64 s5.2.2.2))
   have hR3 := row_put4 hA5.res (.int .u64 (W64 s5.1)) (.int .u64 (W64 s5.2.1)) (.int .u64 (W64 s5.2.2.1)) (.int .u64 (W64 s5.2.2.2))
   clear cr0 fr0 cr1 fr1 cr2 fr2 cr3 fr3
   generalize (((w5.setCell ⟨pb + 1, 0, none⟩ (.int .u64 (W64 s5.1))).setCell ⟨pb + 1, 1, none⟩ (.int .u64 (W64 s5.2.1))).setCell ⟨pb + 1, 2, none⟩ (.int .u64 (W64 s5.2.2.1))).setCell ⟨pb + 1, 3, none⟩ (.int .u64 (W64 s5.2.2.2)) = w3 at hF3 hR3 ⊢
   have cd0 := hR3.c0
   have cd1 := hR3.c1
   have cd2 := hR3.c2
   have cd3 := hR3.c3
   refine bodyPost_ret (v := lanesV s5) (by simp [results, Tryz.results71, go_sem, cd0, cd1, cd2, cd3, lanesV]) rfl ?_
   exact ⟨by rw [HS5.out, Ht.out, HS2.out, HC.out]; rfl, hA5.fr.trans hF3 (fun x hx => .inr (by have := hA5.ge; omega))⟩
 · have HC : Hid (cOf kd = 2) := by
    show _ = _
    rcases hk with rfl | rfl | rfl
    · rfl
    · exact absurd rfl h7
    · rfl
   clear hk
   have q0 := hA2.row.c0
   have q1 := hA2.row.c1
   have q2 := hA2.row.c2
   have q3 := hA2.row.c3
   have z0 := hA2.row.fz 0
   have z1 := hA2.row.fz 1
   have z2 := hA2.row.fz 2
   have z3 := hA2.row.fz 3
   go_wp2_with fail
   refine (refRounds_any s2 2 (by omega) _).mono ?_
   rintro e w3 ⟨rfl, hf3⟩
   have hA3 := hA2.no hf3
   clear q0 q1 q2 q3 z0 z1 z2 z3 hA2 hf3
   obtain ⟨t, ht⟩ : ∃ z, z = roundsF 2 s2 := ⟨_, rfl⟩
   rw [← ht]
   have Ht := Lib.hid ht
   clear ht
   unfold lanesV
   have q0 := hA3.row.c0
   have q1 := hA3.row.c1
   have q2 := hA3.row.c2
   have q3 := hA3.row.c3
   have z0 := hA3.row.fz 0
   have z1 := hA3.row.fz 1
   have z2 := hA3.row.fz 2
   have z3 := hA3.row.fz 3
   go_upto_region 5 with fail
   have hA4 := hA3.put t
   clear q0 q1 q2 q3 z0 z1 z2 z3 hA3
   generalize ((((w3.setCell ⟨pb, 0, none⟩ (.int .u64 (W64 t.1))).setCell ⟨pb, 1, none⟩ (.int .u64 (W64 t.2.1))).setCell ⟨pb, 2, none⟩ (.int .u64 (W64 t.2.2.1))).setCell ⟨pb, 3, none⟩ (.int .u64 (W64 t.2.2.2))) = w4 at hA4 ⊢
   have q0 := hA4.row.c0
   have q1 := hA4.row.c1
   have q2 := hA4.row.c2
   have q3 := hA4.row.c3
   have z0 := hA4.row.fz 0
   have z1 := hA4.row.fz 1
   have z2 := hA4.row.fz 2
   have z3 := hA4.row.fz 3
   go_upto_region 6 with fail
   have hA5 := hA4.put0 (t.1 ^^^ m)
   clear q0 q1 q2 q3 z0 z1 z2 z3 hA4
   generalize w4.setCell ⟨pb, 0, none⟩ (.int .u64 (W64 (t.1 ^^^ m))) = w5 at hA5 ⊢
   obtain ⟨s5, hs5⟩ : ∃ z : ST, z = (t.1 ^^^ m, t.2.1, t.2.2.1, t.2.2.2) := ⟨_, rfl⟩
   rw [← hs5] at hA5
   have HS5 := Lib.hid hs5
   clear hs5
   have cb0 := hA5.row.c0
   have cb1 := hA5.row.c1
   have cb2 := hA5.row.c2
   have cb3 := hA5.row.c3
   have cr0 := hA5.res.c0
   have cr1 := hA5.res.c1
   have cr2 := hA5.res.c2
   have cr3 := hA5.res.c3
   have fr0 := hA5.res.fz 0
   have fr1 := hA5.res.fz 1
   have fr2 := hA5.res.fz 2
   have fr3 := hA5.res.fz 3
   go_wp2_with fail
   have hF3 := fr_put4 w5 (pb + 1) (.int .u64 (W64 s5.1)) (.int .u64 (W64 s5.2.1)) (.int .u64 (W64 s5.2.2.1)) (.int .u64 (W64 s5.2.2.2))
   have hR3 := row_put4 hA5.res (.int .u64 (W64 s5.1)) (.int .u64 (W64 s5.2.1)) (.int .u64 (W64 s5.2.2.1)) (.int .u64 (W64 s5.2.2.2))
   clear cr0 fr0 cr1 fr1 cr2 fr2 cr3 fr3
   generalize (((w5.setCell ⟨pb + 1, 0, none⟩ (.int .u64 (W64 s5.1))).setCell ⟨pb + 1, 1, none⟩ (.int .u64 (W64 s5.2.1))).setCell ⟨pb + 1, 2, none⟩ (.int .u64 (W64 s5.2.2.1))).setCell ⟨pb + 1, 3, none⟩ (.int .u64 (W64 s5.2.2.2)) = w3 at hF3 hR3 ⊢
   have cd0 := hR3.c0
   have cd1 := hR3.c1
   have cd2 := hR3.c2
   have cd3 := hR3.c3
   refine bodyPost_ret (v := lanesV s5) (by simp [results, Tryz.results71, go_sem, cd0, cd1, cd2, cd3, lanesV]) rfl ?_
   exact ⟨by rw [HS5.out, Ht.out, HS2.out, HC.out]; rfl, hA5.fr.trans hF3 (fun x hx => .inr (by have := hA5.ge; omega))⟩
def GivesLanes (a : Option Addr) (n c : Nat) (l : Bytes) (r : ST × Bytes) (w : World) (e : Ending) (w' : World) : Prop :=
 ∃ a' n' c', e = .returned (.tuple #[lanesV r.1, .slice a' n' c']) ∧ IsBytes w' a' n' c' r.2 ∧ (∀ w2, IsBytes w2 a n c l → IsBytes w2 a' n' c' r.2) ∧ Fr No w w'
theorem stepG_take (k : Nat) (s : ST) (l : Bytes) : stepG k s (l.take 8) = wordF k s (le (l.take 8)) := by unfold stepG; rw [List.take_take, show min 8 8 = 8 from rfl]
set_option maxHeartbeats 2000000 in
theorem refFrom_any (kd : Int) (hk : IsK kd) (s : ST) (a : Option Addr) (n c : Nat) (l : Bytes) (w : World) (h : IsBytes w a n c l) (hn : n ≤ 1099511627776) :
 Calls Tryz.prog 177 #[.int .i64 kd, lanesV s, .slice a n c] w (GivesLanes a n c l (foldF (stepG (cOf kd)) 8 s l) w) := by
 obtain ⟨r, hr⟩ : ∃ r, r = foldF (stepG (cOf kd)) 8 s l := ⟨_, rfl⟩
 rw [← hr]
 have HR := Lib.hid hr
 clear hr
 unfold lanesV
 have hA := At.new w s
 go_enter Tryz.func177, Tryz.ntmps177
 go_wp2
 generalize w.heap.size = pb at hA ⊢
 generalize ((w.alloc (.cells #[.int .u64 (W64 s.1), .int .u64 (W64 s.2.1), .int .u64 (W64 s.2.2.1), .int .u64 (W64 s.2.2.2)] 31)).alloc (.cells #[.int .u64 0, .int .u64 0, .int .u64 0, .int .u64 0] 31)) = w1 at hA ⊢
 go_loopw [2] (fun v wr => ∃ m a' c' l' s', v = .slice a' m c' ∧ IsBytes w a' m c' l' ∧ (∀ w2, IsBytes w2 a n c l → IsBytes w2 a' m c' l') ∧ At w wr pb s' ∧ Hid (foldF (stepG (cOf kd)) 8 s' l' = r)) (fun v _ => match v with | .slice _ m _ => m | _ => 0)
 case atStart => exact ⟨n, a, c, l, s, rfl, h, fun _ h => h, hA, HR.out.symm⟩
 case round =>
  obtain ⟨m, a', c', l', s0, rfl, hb, hst, hA0, hr'⟩ := hrel
  clear hA
  obtain ⟨w0, rfl⟩ : ∃ w0 : World, w0 = wr := ⟨_, rfl⟩
  have hlen := Lib.hid hb.1
  have hc : m ≤ c' := hb.2.1
  have hc2 : c' ≤ 9223372036854775807 := hb.2.2.1
  by_cases hlt : 8 ≤ m
  · have i1 : (8 : Int) ≤ (m : Int) := by omega
    have i2 : (8 : Int) ≤ (c' : Int) := by omega
    have hcut := hb.cut_to_end 8 (n' := m - 8) (c' := c' - 8) hlt rfl rfl
    have hy := hb.no hA0.fr
    go_upto_region 2 with fail
    refine wp_region_seq (by kernel_rfl) (fun w' => Fr No w0 w') (fun i => decide (5 ≤ i)) [(0, 1), (1, 1), (2, 1), (3, 0), (4, 0), (5, 0)] (by kernel_rfl) (Fr.refl No w0).drew ?_
    have hv0 : Fr No w0 w0.drew := (Fr.refl No w0).drew
    iterate 3 refine tq _ rfl rfl (by intro w9 h9; have q0 := (hA0.row.no h9).c0; have q1 := (hA0.row.no h9).c1; have q2 := (hA0.row.no h9).c2; have q3 := (hA0.row.no h9).c3; clear h9; go_simp; try with_reducible rfl) ?_; simp only [es1, es2, es3]
    refine wpSeq_next rfl rfl (fun K hK => ?_)
    go_wp2_with fail
    refine (refNum_any _ _ _ l' 0 8 _ (hy.no hv0) (by omega) (by omega) (by omega) (by omega)).mono ?_
    rintro e w' ⟨rfl, rfl⟩
    refine hK.out _ _ (fun _ => hv0) ?_
    clear hK K
    refine wpSeq_next rfl rfl (fun K hK => ?_)
    go_wp2_with fail
    refine (refWord_any kd hk s0 (le (l'.take 8)) _).mono ?_
    rintro e xhv1 ⟨rfl, hx⟩
    have hv1 := hv0.no hx
    clear hx
    obtain ⟨t, ht⟩ : ∃ z, z = wordF (cOf kd) s0 (le (l'.take 8)) := ⟨_, rfl⟩
    rw [← ht]
    have Ht := Lib.hid ht
    clear ht
    unfold lanesV
    refine hK.out _ _ (fun _ => hv1) ?_
    clear hK K
    have hAx := hA0.no hv1
    have q0 := hAx.row.c0
    have q1 := hAx.row.c1
    have q2 := hAx.row.c2
    have q3 := hAx.row.c3
    have z0 := hAx.row.fz 0
    have z1 := hAx.row.fz 1
    have z2 := hAx.row.fz 2
    have z3 := hAx.row.fz 3
    refine wpSeq_next rfl rfl (fun K hK => ?_)
    go_wp2_with fail
    refine hK.out _ _ (fun h => by simp at h) ?_
    clear hK K
    refine wpSeq_done ?_
    have hA1 := hAx.put t
    clear q0 q1 q2 q3 z0 z1 z2 z3 hA0 hAx hv1 hv0 hy
    generalize ((((xhv1.setCell ⟨pb, 0, none⟩ (.int .u64 (W64 t.1))).setCell ⟨pb, 1, none⟩ (.int .u64 (W64 t.2.1))).setCell ⟨pb, 2, none⟩ (.int .u64 (W64 t.2.2.1))).setCell ⟨pb, 3, none⟩ (.int .u64 (W64 t.2.2.2))) = w4 at hA1 ⊢
    go_wp2_with fail
    go_roundw
    case rel =>
     refine ⟨m - 8, _, _, _, t, rfl, hcut, fun w2 h2 => (hst w2 h2).cut_to_end 8 hlt rfl rfl, hA1, ?_⟩
     show _ = _
     rw [← hr'.out, foldF_step (s := s0) (l := l') (by omega) (by rw [hlen.out]; exact hlt), Ht.out, stepG_take]
    case measure => simp; omega
  · have i1 : (m : Int) < 8 := by omega
    have HS := Lib.hid (foldF_short (F := stepG (cOf kd)) (size := 8) (s := s0) (l := l') (by rw [hlen.out]; omega))
    have cb0 := hA0.row.c0
    have cb1 := hA0.row.c1
    have cb2 := hA0.row.c2
    have cb3 := hA0.row.c3
    have cr0 := hA0.res.c0
    have cr1 := hA0.res.c1
    have cr2 := hA0.res.c2
    have cr3 := hA0.res.c3
    have fr0 := hA0.res.fz 0
    have fr1 := hA0.res.fz 1
    have fr2 := hA0.res.fz 2
    have fr3 := hA0.res.fz 3
    go_wp2_with fail
    have hF3 := fr_put4 w0 (pb + 1) (.int .u64 (W64 s0.1)) (.int .u64 (W64 s0.2.1)) (.int .u64 (W64 s0.2.2.1)) (.int .u64 (W64 s0.2.2.2))
    have hR3 := row_put4 hA0.res (.int .u64 (W64 s0.1)) (.int .u64 (W64 s0.2.1)) (.int .u64 (W64 s0.2.2.1)) (.int .u64 (W64 s0.2.2.2))
    clear cr0 fr0 cr1 fr1 cr2 fr2 cr3 fr3
    generalize (((w0.setCell ⟨pb + 1, 0, none⟩ (.int .u64 (W64 s0.1))).setCell ⟨pb + 1, 1, none⟩ (.int .u64 (W64 s0.2.1))).setCell ⟨pb + 1, 2, none⟩ (.int .u64 (W64 s0.2.2.1))).setCell ⟨pb + 1, 3, none⟩ (.int .u64 (W64 s0.2.2.2)) = w3 at hF3 hR3 ⊢
    have cd0 := hR3.c0
    have cd1 := hR3.c1
    have cd2 := hR3.c2
    have cd3 := hR3.c3
    refine bodyPost_ret (v := .tuple #[lanesV s0, .slice a' m c']) (by simp [results, Tryz.results177, go_sem, cd0, cd1, cd2, cd3, lanesV]) rfl ?_
    have hFe : Fr No w w3 := hA0.fr.trans hF3 (fun x hx => .inr (by have := hA0.ge; omega))
    refine ⟨a', m, c', by rw [← hr'.out, HS.out], ?_, ?_, hFe⟩
    · rw [← hr'.out, HS.out]; exact hb.no hFe
    · rw [← hr'.out, HS.out]; exact hst
def rowK (hi lo : BitVec 64) (w : World) (b : Nat) : Nat → Prop
 | 0 => Row4 w b 31 (.int .u64 8317987319222330741) (.int .u64 7237128888997146477) (.int .u64 7816392313619706465) (.int .u64 8387220255154660723)
 | 1 => Row4 w b 31 (.int .u64 (W64 (8317987319222330741#64 ^^^ lo))) (.int .u64 (W64 (7237128888997146477#64 ^^^ hi))) (.int .u64 7816392313619706465) (.int .u64 8387220255154660723)
 | _ => Row4 w b 31 (.int .u64 (W64 (8317987319222330741#64 ^^^ lo))) (.int .u64 (W64 (7237128888997146477#64 ^^^ hi))) (.int .u64 (W64 (7816392313619706465#64 ^^^ lo))) (.int .u64 (W64 (8387220255154660723#64 ^^^ hi)))
theorem first_n {kd : Int} (h : ¬ kd = 8) (hi lo : BitVec 64) : ((8317987319222330741#64 ^^^ lo, 7237128888997146477#64 ^^^ hi, 7816392313619706465#64 ^^^ lo, 8387220255154660723#64 ^^^ hi) : ST) = firstF kd hi lo := by
 unfold firstF
 rw [if_neg h, BitVec.xor_comm _ lo, BitVec.xor_comm _ hi, BitVec.xor_comm _ lo, BitVec.xor_comm _ hi]
theorem first_8 (hi lo : BitVec 64) : ((8317987319222330741#64 ^^^ lo, (7237128888997146477#64 ^^^ hi) ^^^ 238#64, 7816392313619706465#64 ^^^ lo, 8387220255154660723#64 ^^^ hi) : ST) = firstF 8 hi lo := by
 unfold firstF
 rw [if_pos rfl, BitVec.xor_comm _ lo, BitVec.xor_comm _ hi, BitVec.xor_comm _ lo, BitVec.xor_comm _ hi]
set_option maxHeartbeats 2000000 in
theorem refBlocks_any (kd : Int) (hk : IsK kd) (hi lo : BitVec 64) (a : Option Addr) (n c : Nat) (l : Bytes) (w : World) (h : IsBytes w a n c l) (hn : n ≤ 1099511627776) :
 Calls Tryz.prog 102 #[.int .i64 kd, .agg #[.int .u64 (W64 hi), .int .u64 (W64 lo)], .slice a n c] w (GivesLanes a n c l (foldF (stepG (cOf kd)) 8 (firstF kd hi lo) l) w) := by
 obtain ⟨r, hr⟩ : ∃ r, r = foldF (stepG (cOf kd)) 8 (firstF kd hi lo) l := ⟨_, rfl⟩
 rw [← hr]
 have HR := Lib.hid hr.symm
 clear hr
 have hU0 : Row2 (((w.alloc (.cells #[.int .u64 (W64 hi), .int .u64 (W64 lo)] 30)).alloc (.cells #[.int .u64 0, .int .u64 0, .int .u64 0, .int .u64 0] 31)).alloc (.cells #[.int .u64 8317987319222330741, .int .u64 7237128888997146477, .int .u64 7816392313619706465, .int .u64 8387220255154660723] 31)) w.heap.size 30 (.int .u64 (W64 hi)) (.int .u64 (W64 lo)) := ((row2_new w _ _ _).no ((Fr.refl No _).alloc _)).no ((Fr.refl No _).alloc _)
 have hZ0 : Row4 (((w.alloc (.cells #[.int .u64 (W64 hi), .int .u64 (W64 lo)] 30)).alloc (.cells #[.int .u64 0, .int .u64 0, .int .u64 0, .int .u64 0] 31)).alloc (.cells #[.int .u64 8317987319222330741, .int .u64 7237128888997146477, .int .u64 7816392313619706465, .int .u64 8387220255154660723] 31)) (w.heap.size + 1) 31 (.int .u64 0) (.int .u64 0) (.int .u64 0) (.int .u64 0) := Row4.no (show Row4 ((w.alloc (.cells #[.int .u64 (W64 hi), .int .u64 (W64 lo)] 30)).alloc (.cells #[.int .u64 0, .int .u64 0, .int .u64 0, .int .u64 0] 31)) (w.heap.size + 1) 31 (.int .u64 0) (.int .u64 0) (.int .u64 0) (.int .u64 0) from heap_alloc2_new w _ _) ((Fr.refl No _).alloc _)
 have hO0 : rowK hi lo (((w.alloc (.cells #[.int .u64 (W64 hi), .int .u64 (W64 lo)] 30)).alloc (.cells #[.int .u64 0, .int .u64 0, .int .u64 0, .int .u64 0] 31)).alloc (.cells #[.int .u64 8317987319222330741, .int .u64 7237128888997146477, .int .u64 7816392313619706465, .int .u64 8387220255154660723] 31)) (w.heap.size + 2) 0 := heap_alloc3_new w _ _ _
 have hF0 : Fr No w (((w.alloc (.cells #[.int .u64 (W64 hi), .int .u64 (W64 lo)] 30)).alloc (.cells #[.int .u64 0, .int .u64 0, .int .u64 0, .int .u64 0] 31)).alloc (.cells #[.int .u64 8317987319222330741, .int .u64 7237128888997146477, .int .u64 7816392313619706465, .int .u64 8387220255154660723] 31)) := (((Fr.refl No w).alloc _).alloc _).alloc _
 go_enter Tryz.func102, Tryz.ntmps102
 go_wp2
 try rw [show w.heap.size + 1 + 1 = w.heap.size + 2 from rfl]
 obtain ⟨pb, hpb⟩ : ∃ pb, pb = w.heap.size := ⟨_, rfl⟩
 obtain ⟨nb, hnb⟩ : ∃ nb, nb = w.heap.size + 2 := ⟨_, rfl⟩
 have hpw : w.heap.size ≤ pb := by omega
 have hnp : pb + 1 < nb := by omega
 rw [← hnb] at hO0 ⊢
 rw [← hpb] at hU0 hZ0 ⊢
 clear hpb hnb
 generalize (((w.alloc (.cells #[.int .u64 (W64 hi), .int .u64 (W64 lo)] 30)).alloc (.cells #[.int .u64 0, .int .u64 0, .int .u64 0, .int .u64 0] 31)).alloc (.cells #[.int .u64 8317987319222330741, .int .u64 7237128888997146477, .int .u64 7816392313619706465, .int .u64 8387220255154660723] 31)) = w1 at hU0 hZ0 hO0 hF0 ⊢
 go_loopw [9] (fun i wr => ∃ k : Nat, k ≤ 2 ∧ i = .int .i64 (2 * k : Nat) ∧ rowK hi lo wr nb k ∧ Row2 wr pb 30 (.int .u64 (W64 hi)) (.int .u64 (W64 lo)) ∧ Row4 wr (pb + 1) 31 (.int .u64 0) (.int .u64 0) (.int .u64 0) (.int .u64 0) ∧ Fr No w wr) (fun i _ => 4 - (intOf i).toNat)
 case atStart => exact ⟨0, by omega, rfl, hO0, hU0, hZ0, hF0⟩
 case round =>
  obtain ⟨k, hk2, rfl, hO0', hU, hZ, hF⟩ := hrel
  clear hO0 hU0 hZ0 hF0
  have hO0 := hO0'
  clear hO0'
  rcases (show k = 0 ∨ k = 1 ∨ k = 2 by omega) with rfl | rfl | rfl
  · have hO : Row4 wr nb 31 (.int .u64 8317987319222330741) (.int .u64 7237128888997146477) (.int .u64 7816392313619706465) (.int .u64 8387220255154660723) := hO0
    clear hO0
    go_upto_region 5 with fail
    refine wp_region_seq (by kernel_rfl) (fun w' => Fr No wr w') (fun i => decide (8 ≤ i)) [(0, 1), (1, 1), (2, 1), (3, 1), (4, 1), (5, 1), (6, 1), (7, 1), (8, 0)] (by kernel_rfl) (Fr.refl No wr).drew ?_
    have hv0 : Fr No wr wr.drew := (Fr.refl No wr).drew
    iterate 8 refine tq _ rfl rfl (by intro w9 h9; have q0 := (hO.no h9).c0; have q1 := (hU.no h9).c1; clear h9; go_simp; try with_reducible rfl) ?_; simp only [es1, es2, es3]
    have hOx := hO.no hv0
    have cx := hOx.c0
    have fx := hOx.fz 0
    have cy := hO.c0
    have fy := hO.fz 0
    refine wpSeq_next rfl rfl (fun K hK => ?_)
    go_wp2_with fail
    refine hK.out _ _ (fun h => by simp at h) ?_
    clear hK K
    refine wpSeq_done ?_
    have hf2 := (fr_cell wr nb 0 (.int .u64 (W64 (8317987319222330741#64 ^^^ lo)))).no (Fr.refl No _).drew
    have hO2 := (hO.put0 (.int .u64 (W64 (8317987319222330741#64 ^^^ lo)))).no (Fr.refl No _).drew
    have hU2 := hU.fr hf2 (by omega)
    have hZ2 := hZ.fr hf2 (by omega)
    have hF2 : Fr No w _ := hF.trans hf2 (fun x hx => .inr (by omega))
    clear hOx cx fx cy fy hv0 hO hU hZ hF hf2
    generalize (wr.setCell ⟨nb, 0, none⟩ (.int .u64 (W64 (8317987319222330741#64 ^^^ lo)))).drew = w5 at hO2 hU2 hZ2 hF2 ⊢
    go_upto_region 6 with fail
    refine wp_region_seq (by kernel_rfl) (fun w' => Fr No w5 w') (fun i => decide (10 ≤ i)) [(0, 1), (1, 1), (2, 1), (3, 1), (4, 1), (5, 1), (6, 1), (7, 1), (8, 1), (9, 1), (10, 0)] (by kernel_rfl) (Fr.refl No w5).drew ?_
    have hv0 : Fr No w5 w5.drew := (Fr.refl No w5).drew
    iterate 5 refine tq _ rfl rfl (by intro w9 h9; have em : IntKind.i64.wrap 1 = 1 := (by decide); clear h9; go_simp; try with_reducible rfl) ?_; simp only [es1, es2, es3]
    iterate 5 refine tq _ rfl rfl (by intro w9 h9; have q0 := (hO2.no h9).c1; have q1 := (hU2.no h9).c0; clear h9; go_simp; try with_reducible rfl) ?_; simp only [es1, es2, es3]
    have hOx := hO2.no hv0
    have cx := hOx.c1
    have fx := hOx.fz 1
    have cy := hO2.c1
    have fy := hO2.fz 1
    refine wpSeq_next rfl rfl (fun K hK => ?_)
    go_wp2_with fail
    refine hK.out _ _ (fun h => by simp at h) ?_
    clear hK K
    refine wpSeq_done ?_
    have hf3 := (fr_cell w5 nb 1 (.int .u64 (W64 (7237128888997146477#64 ^^^ hi)))).no (Fr.refl No _).drew
    have hO3 := (hO2.put1 (.int .u64 (W64 (7237128888997146477#64 ^^^ hi)))).no (Fr.refl No _).drew
    have hU3 := hU2.fr hf3 (by omega)
    have hZ3 := hZ2.fr hf3 (by omega)
    have hF3 : Fr No w _ := hF2.trans hf3 (fun x hx => .inr (by omega))
    clear hOx cx fx cy fy hv0 hO2 hU2 hZ2 hF2 hf3
    go_wp2_with fail
    go_roundw
    case rel => exact ⟨1, by omega, rfl, hO3, hU3, hZ3, hF3⟩
    case measure => simp [intOf]
  · have hO : Row4 wr nb 31 (.int .u64 (W64 (8317987319222330741#64 ^^^ lo))) (.int .u64 (W64 (7237128888997146477#64 ^^^ hi))) (.int .u64 7816392313619706465) (.int .u64 8387220255154660723) := hO0
    clear hO0
    go_upto_region 5 with fail
    refine wp_region_seq (by kernel_rfl) (fun w' => Fr No wr w') (fun i => decide (8 ≤ i)) [(0, 1), (1, 1), (2, 1), (3, 1), (4, 1), (5, 1), (6, 1), (7, 1), (8, 0)] (by kernel_rfl) (Fr.refl No wr).drew ?_
    have hv0 : Fr No wr wr.drew := (Fr.refl No wr).drew
    iterate 8 refine tq _ rfl rfl (by intro w9 h9; have q0 := (hO.no h9).c2; have q1 := (hU.no h9).c1; clear h9; go_simp; try with_reducible rfl) ?_; simp only [es1, es2, es3]
    have hOx := hO.no hv0
    have cx := hOx.c2
    have fx := hOx.fz 2
    have cy := hO.c2
    have fy := hO.fz 2
    refine wpSeq_next rfl rfl (fun K hK => ?_)
    go_wp2_with fail
    refine hK.out _ _ (fun h => by simp at h) ?_
    clear hK K
    refine wpSeq_done ?_
    have hf2 := (fr_cell wr nb 2 (.int .u64 (W64 (7816392313619706465#64 ^^^ lo)))).no (Fr.refl No _).drew
    have hO2 := (hO.put2 (.int .u64 (W64 (7816392313619706465#64 ^^^ lo)))).no (Fr.refl No _).drew
    have hU2 := hU.fr hf2 (by omega)
    have hZ2 := hZ.fr hf2 (by omega)
    have hF2 : Fr No w _ := hF.trans hf2 (fun x hx => .inr (by omega))
    clear hOx cx fx cy fy hv0 hO hU hZ hF hf2
    generalize (wr.setCell ⟨nb, 2, none⟩ (.int .u64 (W64 (7816392313619706465#64 ^^^ lo)))).drew = w5 at hO2 hU2 hZ2 hF2 ⊢
    go_upto_region 6 with fail
    refine wp_region_seq (by kernel_rfl) (fun w' => Fr No w5 w') (fun i => decide (10 ≤ i)) [(0, 1), (1, 1), (2, 1), (3, 1), (4, 1), (5, 1), (6, 1), (7, 1), (8, 1), (9, 1), (10, 0)] (by kernel_rfl) (Fr.refl No w5).drew ?_
    have hv0 : Fr No w5 w5.drew := (Fr.refl No w5).drew
    iterate 5 refine tq _ rfl rfl (by intro w9 h9; have em : IntKind.i64.wrap 3 = 3 := (by decide); clear h9; go_simp; try with_reducible rfl) ?_; simp only [es1, es2, es3]
    iterate 5 refine tq _ rfl rfl (by intro w9 h9; have q0 := (hO2.no h9).c3; have q1 := (hU2.no h9).c0; clear h9; go_simp; try with_reducible rfl) ?_; simp only [es1, es2, es3]
    have hOx := hO2.no hv0
    have cx := hOx.c3
    have fx := hOx.fz 3
    have cy := hO2.c3
    have fy := hO2.fz 3
    refine wpSeq_next rfl rfl (fun K hK => ?_)
    go_wp2_with fail
    refine hK.out _ _ (fun h => by simp at h) ?_
    clear hK K
    refine wpSeq_done ?_
    have hf3 := (fr_cell w5 nb 3 (.int .u64 (W64 (8387220255154660723#64 ^^^ hi)))).no (Fr.refl No _).drew
    have hO3 := (hO2.put3 (.int .u64 (W64 (8387220255154660723#64 ^^^ hi)))).no (Fr.refl No _).drew
    have hU3 := hU2.fr hf3 (by omega)
    have hZ3 := hZ2.fr hf3 (by omega)
    have hF3 : Fr No w _ := hF2.trans hf3 (fun x hx => .inr (by omega))
    clear hOx cx fx cy fy hv0 hO2 hU2 hZ2 hF2 hf3
    go_wp2_with fail
    go_roundw
    case rel => exact ⟨2, by omega, rfl, hO3, hU3, hZ3, hF3⟩
    case measure => simp [intOf]
  · have hO : Row4 wr nb 31 (.int .u64 (W64 (8317987319222330741#64 ^^^ lo))) (.int .u64 (W64 (7237128888997146477#64 ^^^ hi))) (.int .u64 (W64 (7816392313619706465#64 ^^^ lo))) (.int .u64 (W64 (8387220255154660723#64 ^^^ hi))) := hO0
    clear hO0 hU
    obtain ⟨w2, rfl⟩ : ∃ w2 : World, w2 = wr := ⟨_, rfl⟩
    by_cases h8 : kd = 8
    · subst h8
      have q1 := hO.c1
      have z1 := hO.fz 1
      go_upto_region 9 with fail
      have hN3 := hO.put1 (.int .u64 (W64 ((7237128888997146477#64 ^^^ hi) ^^^ 238#64)))
      have hf3 := fr_cell w2 nb 1 (.int .u64 (W64 ((7237128888997146477#64 ^^^ hi) ^^^ 238#64)))
      have hZ3 := hZ.fr hf3 (by omega)
      have hFx : Fr No w _ := hF.trans hf3 (fun x hx => .inr (by omega))
      clear q1 z1 hO hZ hF hf3
      generalize w2.setCell ⟨nb, 1, none⟩ (.int .u64 (W64 ((7237128888997146477#64 ^^^ hi) ^^^ 238#64))) = w4 at hN3 hZ3 hFx ⊢
      obtain ⟨s, hs⟩ : ∃ z : ST, z = (8317987319222330741#64 ^^^ lo, (7237128888997146477#64 ^^^ hi) ^^^ 238#64, 7816392313619706465#64 ^^^ lo, 8387220255154660723#64 ^^^ hi) := ⟨_, rfl⟩
      have hN4 : Row4 w4 nb 31 (.int .u64 (W64 s.1)) (.int .u64 (W64 s.2.1)) (.int .u64 (W64 s.2.2.1)) (.int .u64 (W64 s.2.2.2)) := by rw [hs]; exact hN3
      have HS := Lib.hid (hs.trans (first_8 hi lo))
      obtain ⟨kd, hkd⟩ : ∃ kd : Int, kd = 8 := ⟨_, rfl⟩
      rw [← hkd] at HR HS hk ⊢
      clear hs hN3 hkd
      have cq0 := hN4.c0
      have cq1 := hN4.c1
      have cq2 := hN4.c2
      have cq3 := hN4.c3
      have hy := h.no hFx
      go_wp2_with fail
      refine (refFrom_any kd hk s _ _ _ l _ hy hn).mono ?_
      rw [HS.out, HR.out]
      rintro e w6 ⟨a', n', c', rfl, hb, hst, hf⟩
      have hR := hZ3.no hf
      have hFg := hFx.no hf
      clear hf hy cq0 cq1 cq2 cq3
      have cr0 := hR.c0
      have cr1 := hR.c1
      have cr2 := hR.c2
      have cr3 := hR.c3
      have fr0 := hR.fz 0
      have fr1 := hR.fz 1
      have fr2 := hR.fz 2
      have fr3 := hR.fz 3
      unfold lanesV
      go_wp2_with fail
      have hF3 := fr_put4 w6 (pb + 1) (.int .u64 (W64 r.1.1)) (.int .u64 (W64 r.1.2.1)) (.int .u64 (W64 r.1.2.2.1)) (.int .u64 (W64 r.1.2.2.2))
      have hR3 := row_put4 hR (.int .u64 (W64 r.1.1)) (.int .u64 (W64 r.1.2.1)) (.int .u64 (W64 r.1.2.2.1)) (.int .u64 (W64 r.1.2.2.2))
      clear cr0 fr0 cr1 fr1 cr2 fr2 cr3 fr3
      generalize (((w6.setCell ⟨pb + 1, 0, none⟩ (.int .u64 (W64 r.1.1))).setCell ⟨pb + 1, 1, none⟩ (.int .u64 (W64 r.1.2.1))).setCell ⟨pb + 1, 2, none⟩ (.int .u64 (W64 r.1.2.2.1))).setCell ⟨pb + 1, 3, none⟩ (.int .u64 (W64 r.1.2.2.2)) = w3 at hF3 hR3 ⊢
      have cd0 := hR3.c0
      have cd1 := hR3.c1
      have cd2 := hR3.c2
      have cd3 := hR3.c3
      refine bodyPost_ret (v := .tuple #[lanesV r.1, .slice a' n' c']) (by simp [results, Tryz.results102, go_sem, cd0, cd1, cd2, cd3, lanesV]) rfl ?_
      have hFe : Fr No w w3 := hFg.trans hF3 (fun x hx => .inr (by omega))
      exact ⟨a', n', c', rfl, (hst _ (h.no hFe)), hst, hFe⟩
    · obtain ⟨s, hs⟩ : ∃ z : ST, z = (8317987319222330741#64 ^^^ lo, 7237128888997146477#64 ^^^ hi, 7816392313619706465#64 ^^^ lo, 8387220255154660723#64 ^^^ hi) := ⟨_, rfl⟩
      have hN4 : Row4 w2 nb 31 (.int .u64 (W64 s.1)) (.int .u64 (W64 s.2.1)) (.int .u64 (W64 s.2.2.1)) (.int .u64 (W64 s.2.2.2)) := by rw [hs]; exact hO
      have HS := Lib.hid (hs.trans (first_n h8 hi lo))
      clear hs hO
      have cq0 := hN4.c0
      have cq1 := hN4.c1
      have cq2 := hN4.c2
      have cq3 := hN4.c3
      have hy := h.no hF
      go_wp2_with fail
      refine (refFrom_any kd hk s _ _ _ l _ hy hn).mono ?_
      rw [HS.out, HR.out]
      rintro e w6 ⟨a', n', c', rfl, hb, hst, hf⟩
      have hR := hZ.no hf
      have hFg := hF.no hf
      clear hf hy cq0 cq1 cq2 cq3
      have cr0 := hR.c0
      have cr1 := hR.c1
      have cr2 := hR.c2
      have cr3 := hR.c3
      have fr0 := hR.fz 0
      have fr1 := hR.fz 1
      have fr2 := hR.fz 2
      have fr3 := hR.fz 3
      unfold lanesV
      go_wp2_with fail
      have hF3 := fr_put4 w6 (pb + 1) (.int .u64 (W64 r.1.1)) (.int .u64 (W64 r.1.2.1)) (.int .u64 (W64 r.1.2.2.1)) (.int .u64 (W64 r.1.2.2.2))
      have hR3 := row_put4 hR (.int .u64 (W64 r.1.1)) (.int .u64 (W64 r.1.2.1)) (.int .u64 (W64 r.1.2.2.1)) (.int .u64 (W64 r.1.2.2.2))
      clear cr0 fr0 cr1 fr1 cr2 fr2 cr3 fr3
      generalize (((w6.setCell ⟨pb + 1, 0, none⟩ (.int .u64 (W64 r.1.1))).setCell ⟨pb + 1, 1, none⟩ (.int .u64 (W64 r.1.2.1))).setCell ⟨pb + 1, 2, none⟩ (.int .u64 (W64 r.1.2.2.1))).setCell ⟨pb + 1, 3, none⟩ (.int .u64 (W64 r.1.2.2.2)) = w3 at hF3 hR3 ⊢
      have cd0 := hR3.c0
      have cd1 := hR3.c1
      have cd2 := hR3.c2
      have cd3 := hR3.c3
      refine bodyPost_ret (v := .tuple #[lanesV r.1, .slice a' n' c']) (by simp [results, Tryz.results102, go_sem, cd0, cd1, cd2, cd3, lanesV]) rfl ?_
      have hFe : Fr No w w3 := hFg.trans hF3 (fun x hx => .inr (by omega))
      exact ⟨a', n', c', rfl, (hst _ (h.no hFe)), hst, hFe⟩
end Go.Proofs.YtidlpihoafnobaaGreatDoor.StSip
