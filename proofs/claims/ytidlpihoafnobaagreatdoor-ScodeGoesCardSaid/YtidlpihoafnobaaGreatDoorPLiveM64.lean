/- FoldM64 WriteBM64 RestM64 WriteM64 LiveM64 -/
import Derived.Test.YtidlpihoafnobaaGreatDoorPStrCaps
import Derived.Test.YtidlpihoafnobaaGreatDoorPWriteCM64
set_option linter.unusedVariables false
set_option linter.unusedSimpArgs false
namespace Go.Proofs.YtidlpihoafnobaaGreatDoor.StM64
set_option maxRecDepth 100000
open Go.RowKit
def boxCells (s : ST) : List Value := [cS s 0, cS s 1]
def BoxAt (w : World) (b : Nat) (s : ST) : Prop := w.heap[b]? = some (.cells (boxCells s).toArray 208 (0, 0))
theorem BoxAt.cell {w : World} {b : Nat} {s : ST} (h : BoxAt w b s) (k : Nat) {v : Value} (hk : (boxCells s)[k]? = some v) : w.cell? ⟨b, k, none⟩ = some v := by
 rw [cell_of_row w b k _ _ _ h, List.getElem?_toArray]; exact hk
theorem BoxAt.frozen {w : World} {b : Nat} {s : ST} (h : BoxAt w b s) (k : Nat) : w.frozen? ⟨b, k, none⟩ = false := frozen_of_row w b k _ _ h
theorem BoxAt.lt {w : World} {b : Nat} {s : ST} (h : BoxAt w b s) : b < w.heap.size := (Array.getElem?_eq_some_iff.1 h).1
theorem BoxAt.fr {F : Nat → Prop} {w w' : World} {b : Nat} {s : ST} (h : BoxAt w b s) (k : Fr F w w') (hF : ¬ F b) : BoxAt w' b s := k.heap hF h
theorem box_put {w : World} {b : Nat} {cs : List Value} (h : w.heap[b]? = some (.cells cs.toArray 208 (0, 0))) (k : Nat) (v : Value) : (w.setCell ⟨b, k, none⟩ v).heap[b]? = some (.cells (cs.set k v).toArray 208 (0, 0)) := by
 rw [heap_setCell_same w b k _ _ v h, List.setIfInBounds_toArray]
def GivesFold (r : ST × Bytes) (w : World) (e : Ending) (w' : World) : Prop := ∃ v, e = .returned (.tuple #[.agg #[cS r.1 0, cS r.1 1], v]) ∧ Owns w' w.heap.size v r.2 ∧ Fr No w w'
theorem own_ge {w : World} {base : Nat} {v : Value} {l : Bytes} (h : Owns w base v l) {x : Nat} (hx : v.ownBlock = some x) : base ≤ x := by
 rcases h.2 with ⟨rfl, _⟩ | ⟨g, cap, cur, rfl, hb, _⟩
 · simp [Value.ownBlock] at hx
 · simp [Value.ownBlock] at hx; omega
def FoldAt (G : ST → Bytes → ST) (size pb : Nat) (w0 : World) (r : ST × Bytes) (v : Value) (wr : World) (n : Nat) : Prop :=
 ∃ a c l s, v = .slice a n c ∧ IsBytes w0 a n c l ∧ n ≤ 1099511627776 ∧ BoxAt wr pb s ∧ wr.heap[pb + 1]? = some (.cells ([.int .u64 0, .int .u64 0]).toArray 208 (0, 0)) ∧ Fr No w0 wr ∧ foldF G size s l = r
set_option maxHeartbeats 4000000 in
theorem Fold_any (E : World → Prop) (G : ST → Bytes → ST) (sz : Int) (size : Nat) (s : ST) (q : Nat) (a : Option Addr) (n c : Nat) (l : Bytes) (w : World)
 (hkeep : ∀ w', Fr No w w' → E w') (hstep : Hid (Steps E G size q)) (h1 : -9223372036854775808 ≤ sz) (h2 : sz ≤ 9223372036854775807) (hsz : sizeOk sz = size) (h : IsBytes w a n c l) (hn : n ≤ 1099511627776) :
 Calls Tryz.prog 139 #[.int .i64 sz, .agg #[cS s 0, cS s 1], (.func (.func 141) #[] #[]), .slice a n c] w (GivesFold (foldF G size s l) w) := by
 obtain ⟨r, hr⟩ : ∃ r, r = foldF G size s l := ⟨_, rfl⟩
 rw [← hr]
 have hz1 : 1 ≤ size := by have := sizeOk_bd sz; omega
 have hz2 : size ≤ 64 := by have := sizeOk_bd sz; omega
 go_enter Tryz.func139, Tryz.ntmps139
 go_wp2_with (first | (go_at_call 180; refine (sized_any _ _ h1 h2).mono ?_; rintro e w' ⟨rfl, rfl⟩; rw [hsz]) | (go_at_call 201; refine (stepped_any q _).mono ?_; rintro e w' ⟨rfl, rfl⟩))
 have hA : BoxAt (w.alloc (.cells (boxCells s).toArray 208)) w.heap.size s := heap_alloc_new w _
 have hbox : BoxAt ((w.alloc (.cells (boxCells s).toArray 208)).alloc (.cells ([.int .u64 0, .int .u64 0]).toArray 208)) w.heap.size s := hA.fr ((Fr.refl No _).alloc _) (fun h => h)
 have hloop : FoldAt G size w.heap.size w r (.slice a n c) ((w.alloc (.cells (boxCells s).toArray 208)).alloc (.cells ([.int .u64 0, .int .u64 0]).toArray 208)) n :=
  ⟨a, c, l, s, rfl, h, hn, hbox, heap_alloc2_new w _ _, ((Fr.refl No w).alloc _).alloc _, hr.symm⟩
 clear hA hbox h hn hr hsz
 simp only [boxCells] at hloop
 go_loopw [3] (fun v wr => ∃ m, FoldAt G size w.heap.size w r v wr m) (fun v _ => match v with | .slice _ m _ => m | _ => 0)
 case atStart => exact ⟨_, hloop⟩
 case round =>
  obtain ⟨m, a', c', l', s', rfl, hb0, hm', hbox', hres', hfr', hr'⟩ := hrel
  clear hloop
  have hb' := hb0.no hfr'
  have hlen' := Lib.hid hb'.1
  have hc' : m ≤ c' := hb'.2.1
  have hc'' : c' ≤ 9223372036854775807 := hb'.2.2.1
  by_cases hlt : size ≤ m
  · have i1 : (size : Int) ≤ (m : Int) := by omega
    have i2 : (size : Int) ≤ (c' : Int) := by omega
    go_wp2_with fail
    have hcut := Lib.hid (hb'.head size size (n' := size) (c' := size) hlt (Nat.le_refl _) (by omega) rfl rfl)
    refine wp_region_late (by kernel_rfl) (fun w' => BoxAt w' w.heap.size s') (fun i => decide (8 ≤ i)) (show BoxAt wr.drew w.heap.size s' from hbox') (fun hS0 => ?_)
    refine lp 0 rfl hS0 ?_; simp only [Act.put, es1, es2, es3]
    refine lk 1 rfl (by kernel_rfl) (fun _ _ _ h => h) rfl (by intro w9 h9; have cb0 : w9.cell? ⟨w.heap.size, 0, none⟩ = some (cS s' 0) := h9.cell 0 rfl; have cb1 : w9.cell? ⟨w.heap.size, 1, none⟩ = some (cS s' 1) := h9.cell 1 rfl; clear h9; go_simp; try with_reducible rfl) hS0 ?_; simp only [Act.put, es1, es2, es3]
    refine lp 2 rfl hS0 ?_; simp only [Act.put, es1, es2, es3]
    refine lp 3 rfl hS0 ?_; simp only [Act.put, es1, es2, es3]
    refine lp 4 rfl hS0 ?_; simp only [Act.put, es1, es2, es3]
    refine lp 5 rfl hS0 ?_; simp only [Act.put, es1, es2, es3]
    refine wpLate_next (k := 6) (by kernel_rfl) rfl rfl (fun K hK => ?_)
    go_wp2_with fail
    refine (Clone_any _ _ _ (l'.take size) _ (hcut.out.no (Fr.refl No wr).drew) (by omega)).mono ?_
    rintro e w2 ⟨v2, rfl, ho2, hf2d⟩
    have hf2 : Fr No wr w2 := (Fr.refl No wr).drew.no hf2d
    clear hf2d
    obtain ⟨a2, c2, rfl, hb2, _⟩ := ho2.bytes
    have hl2 : (l'.take size).length = size := by rw [List.length_take, hlen'.out]; omega
    rw [hl2] at hb2 ⊢
    have hS2 : BoxAt w2 w.heap.size s' := hbox'.fr hf2 (fun h => h)
    refine hK.out _ _ (fun _ => hS2) ?_
    clear hK K ho2 hS0
    refine wpLate_next (k := 7) (by kernel_rfl) rfl rfl (fun K hK => ?_)
    go_wp2_with fail
    refine (hstep.out _ _ _ _ _ _ (hkeep w2 (hfr'.no hf2)) hb2 hl2).mono ?_
    rintro e w3 ⟨rfl, hf3⟩
    have hS3 : BoxAt w3 w.heap.size s' := hS2.fr hf3 (fun h => h)
    refine hK.out _ _ (fun _ => hS3) ?_
    clear hK K hb2 hl2 hS2
    have cb0 : w3.cell? ⟨w.heap.size, 0, none⟩ = some (cS s' 0) := hS3.cell 0 rfl
    have cb1 : w3.cell? ⟨w.heap.size, 1, none⟩ = some (cS s' 1) := hS3.cell 1 rfl
    have fz0 := hS3.frozen 0
    have fz1 := hS3.frozen 1
    refine wpLate_next (k := 8) (by kernel_rfl) rfl rfl (fun K hK => ?_)
    go_wp2_with fail
    refine hK.out _ _ (fun h => by simp at h) ?_
    clear hK K
    refine wpLate_done (by kernel_rfl) ?_ _
    have hS4 : BoxAt (World.setCell (World.setCell w3 ⟨w.heap.size, 0, none⟩ (cS (G s' (l'.take size)) 0)) ⟨w.heap.size, 1, none⟩ (cS (G s' (l'.take size)) 1)) w.heap.size (G s' (l'.take size)) := (box_put (box_put hS3 0 (cS (G s' (l'.take size)) 0)) 1 (cS (G s' (l'.take size)) 1))
    have hF4 : Fr (fun x => x = w.heap.size) w3 (World.setCell (World.setCell w3 ⟨w.heap.size, 0, none⟩ (cS (G s' (l'.take size)) 0)) ⟨w.heap.size, 1, none⟩ (cS (G s' (l'.take size)) 1)) := ((Fr.refl (fun x => x = w.heap.size) w3).setCell (p := ⟨w.heap.size, 0, none⟩) (.inl rfl) _).setCell (p := ⟨w.heap.size, 1, none⟩) (.inl rfl) _
    clear cb0 fz0 cb1 fz1 hS3
    generalize (World.setCell (World.setCell w3 ⟨w.heap.size, 0, none⟩ (cS (G s' (l'.take size)) 0)) ⟨w.heap.size, 1, none⟩ (cS (G s' (l'.take size)) 1)) = w4 at hS4 hF4 ⊢
    have hF34 : Fr (fun x => x = w.heap.size) wr w4 := ((hf2.no hf3).mono (fun _ _ f => f.elim)).trans hF4 (fun x h => .inl h)
    have hcut2 := hb0.cut_to_end size (n' := m - size) (c' := c' - size) hlt rfl rfl
    have hfe : Fr No w w4 := hfr'.trans hF34 (fun x h => .inr (by omega))
    go_wp2_with fail
    go_roundw
    case rel => exact ⟨m - size, _, _, _, _, rfl, hcut2, by omega, hS4, hF34.heap (by omega) hres', hfe, by rw [← hr']; exact (foldF_step hz1 (by rw [hlen'.out]; exact hlt)).symm⟩
    case measure => simp; omega
  · have i1 : (m : Int) < (size : Int) := by omega
    go_wp2_with fail
    refine wp_region_late (by kernel_rfl) (fun w' => BoxAt w' w.heap.size s') (fun i => decide (5 ≤ i)) (show BoxAt wr.drew w.heap.size s' from hbox') (fun hS0 => ?_)
    refine lk 0 rfl (by kernel_rfl) (fun _ _ _ h => h) rfl (by intro w9 h9; have cb0 : w9.cell? ⟨w.heap.size, 0, none⟩ = some (cS s' 0) := h9.cell 0 rfl; have cb1 : w9.cell? ⟨w.heap.size, 1, none⟩ = some (cS s' 1) := h9.cell 1 rfl; clear h9; go_simp; try with_reducible rfl) hS0 ?_; simp only [Act.put, es1, es2, es3]
    refine lp 1 rfl hS0 ?_; simp only [Act.put, es1, es2, es3]
    refine wpLate_next (k := 2) (by kernel_rfl) rfl rfl (fun K hK => ?_)
    go_wp2_with fail
    refine (Clone_any _ _ _ l' _ (hb'.no (Fr.refl No wr).drew) (by omega)).mono ?_
    rintro e w2 ⟨v2, rfl, ho2, hf2d⟩
    have hf2 : Fr No wr w2 := (Fr.refl No wr).drew.no hf2d
    clear hf2d
    have hS2 : BoxAt w2 w.heap.size s' := hbox'.fr hf2 (fun h => h)
    refine hK.out _ _ (fun _ => hS2) ?_
    clear hK K hS0
    have hR2 := hf2.heap (fun h => h) hres'
    have cr0 : w2.cell? ⟨w.heap.size + 1, 0, none⟩ = some (.int .u64 0) := by rw [cell_of_row w2 _ 0 _ _ _ hR2]; rfl
    have cr1 : w2.cell? ⟨w.heap.size + 1, 1, none⟩ = some (.int .u64 0) := by rw [cell_of_row w2 _ 1 _ _ _ hR2]; rfl
    have fr0 := frozen_of_row w2 (w.heap.size + 1) 0 _ _ hR2
    have fr1 := frozen_of_row w2 (w.heap.size + 1) 1 _ _ hR2
    have hF3 : Fr (fun x => x = w.heap.size + 1) w2 (World.setCell (World.setCell w2 ⟨w.heap.size + 1, 0, none⟩ (cS s' 0)) ⟨w.heap.size + 1, 1, none⟩ (cS s' 1)) := ((Fr.refl (fun x => x = w.heap.size + 1) w2).setCell (p := ⟨w.heap.size + 1, 0, none⟩) (.inl rfl) _).setCell (p := ⟨w.heap.size + 1, 1, none⟩) (.inl rfl) _
    have hB3 : BoxAt (World.setCell (World.setCell w2 ⟨w.heap.size + 1, 0, none⟩ (cS s' 0)) ⟨w.heap.size + 1, 1, none⟩ (cS s' 1)) w.heap.size s' := hS2.fr hF3 (fun h => by omega)
    refine wpLate_next (k := 3) (by kernel_rfl) rfl rfl (fun K hK => ?_)
    go_wp2_with fail
    refine hK.out _ _ (fun _ => hB3) ?_
    clear hK K
    refine wpLate_next (k := 4) (by kernel_rfl) rfl rfl (fun K hK => ?_)
    go_wp2_with fail
    refine hK.out _ _ (fun _ => hB3) ?_
    clear hK K hB3
    refine wpLate_done (by kernel_rfl) ?_ _
    have hS3 : BoxAt (World.setCell (World.setCell w2 ⟨w.heap.size + 1, 0, none⟩ (cS s' 0)) ⟨w.heap.size + 1, 1, none⟩ (cS s' 1)) (w.heap.size + 1) s' := (box_put (box_put hR2 0 (cS s' 0)) 1 (cS s' 1))
    clear cr0 fr0 cr1 fr1
    generalize (World.setCell (World.setCell w2 ⟨w.heap.size + 1, 0, none⟩ (cS s' 0)) ⟨w.heap.size + 1, 1, none⟩ (cS s' 1)) = w3 at hS3 hF3 ⊢
    have cd0 : w3.cell? ⟨w.heap.size + 1, 0, none⟩ = some (cS s' 0) := hS3.cell 0 rfl
    have cd1 : w3.cell? ⟨w.heap.size + 1, 1, none⟩ = some (cS s' 1) := hS3.cell 1 rfl
    go_wp2_with fail
    refine bodyPost_ret (v := .tuple #[.agg #[cS s' 0, cS s' 1], v2]) (by simp [results, Tryz.results139, go_sem, cd0, cd1]) rfl ?_
    have hsh : foldF G size s' l' = (s', l') := foldF_short (by rw [hlen'.out]; omega)
    refine ⟨v2, ?_, ?_, ?_⟩
    · rw [← hr', hsh]
    · rw [← hr', hsh]; exact (ho2.fr hF3 (fun x hx e => by have := own_ge ho2 hx; have := (Array.getElem?_eq_some_iff.1 hres').1; have hd : wr.drew.heap.size = wr.heap.size := rfl; omega)).mono (hfr'.size)
    · exact (hfr'.no hf2).trans hF3 (fun x h => .inr (by omega))
end Go.Proofs.YtidlpihoafnobaaGreatDoor.StM64
namespace Go.Proofs.YtidlpihoafnobaaGreatDoor.StM64
set_option maxRecDepth 100000
open Go.RowKit
set_option maxHeartbeats 4000000 in
theorem Write_part (E : World → Prop) (base sb : Nat) (size : Nat) (f s : ST) (q : Nat) (ta : Option Addr) (k tc : Nat) (tl : Bytes) (lo0 : BitVec 64) (a : Option Addr) (n c : Nat) (l : Bytes) (w : World) (G : ST → Bytes → ST)
 (hE : E w) (hkeep : ∀ w', Fr (Foot sb (.slice ta k tc)) w w' → E w') (hstep : Hid (Steps E G size q))
 (hst : StreamAt w sb size f s q (.slice ta k tc) lo0) (ho : Owns w base (.slice ta k tc) tl) (hb : base ≤ w.heap.size) (hz1 : 1 ≤ size) (hz2 : size ≤ 64) (hk : Hid (tl.length = k)) (htl : 0 < k) (htz : k < size) (h : IsBytes w a n c l) (hap : Apart (Foot sb (.slice ta k tc)) a n) (hn : n ≤ 1099511627776) (hpart : k + n < size) :
 Calls Tryz.prog 293 #[.pointer (some ⟨sb, 0, none⟩), .slice a n c] w (Wrote base sb size f q (.slice ta k tc) (s, tl ++ l) (lo0 + BitVec.ofNat 64 n) w) := by
 have hst1 : StreamAt (w.setCell ⟨sb, 7, none⟩ (.int .u64 (W64 (lo0 + BitVec.ofNat 64 n)))) sb size f s q (.slice ta k tc) (lo0 + BitVec.ofNat 64 n) := hst.put _ _ rfl
 have hfr1 : Fr (Foot sb (.slice ta k tc)) w (w.setCell ⟨sb, 7, none⟩ (.int .u64 (W64 (lo0 + BitVec.ofNat 64 n)))) := (Fr.refl _ w).setCell (.inl (.inl rfl)) _
 have hapo := hst.apart ho
 have ho1 := ho.fr ((Fr.refl (fun x => x = sb) w).setCell (p := ⟨sb, 7, none⟩) (.inl rfl) (.int .u64 (W64 (lo0 + BitVec.ofNat 64 n)))) (fun x hx e => hapo (by rw [hx, e]))
 have hb1 := h.fr hfr1 hap
 have hlen := Lib.hid h.1
 have hnc : n ≤ c := h.2.1
 have hcm : c ≤ 9223372036854775807 := h.2.2.1
 have hmade := hst
 have cz : w.cell? ⟨sb, 0, none⟩ = some (.int .i64 size) := hst.cell 0 rfl
 have cst : w.cell? ⟨sb, 5, none⟩ = some ((.func (.func 141) #[] #[])) := hst.cell 5 rfl
 have ctl : w.cell? ⟨sb, 6, none⟩ = some (.slice ta k tc) := hst.cell 6 rfl
 have clo : w.cell? ⟨sb, 7, none⟩ = some (.int .u64 (W64 lo0)) := hst.cell 7 rfl
 have fzl := hst.frozen 7
 have i1 : (n : Int) < (size : Int) - (k : Int) := by omega
 go_enter Tryz.func293, Tryz.ntmps293
 go_wp2_with (go_at_call 206; refine (made_any hmade).mono ?_; rintro e w' ⟨rfl, rfl⟩)
 go_quiet (fail)
 go_wp2_with fail
 have hS1 : StreamAt ((w.setCell ⟨sb, 7, none⟩ (.int .u64 (W64 (lo0 + BitVec.ofNat 64 n)))).drewN nq) sb size f s q (.slice ta k tc) (lo0 + BitVec.ofNat 64 n) := hst1
 have hF1 := hfr1.drewN nq
 have hown1 := ho1.no ((Fr.refl No _).drewN nq)
 have hbytes1 := (hb1.no ((Fr.refl No _).drewN nq)).head n c (n' := n) (c' := c) (Nat.le_refl _) hnc (Nat.le_refl _) rfl rfl
 have hbase1 : base ≤ ((w.setCell ⟨sb, 7, none⟩ (.int .u64 (W64 (lo0 + BitVec.ofNat 64 n)))).drewN nq).heap.size := Nat.le_trans hb hF1.size
 clear hst1 hfr1 ho1 hb1 clo cz cst ctl fzl
 generalize (w.setCell ⟨sb, 7, none⟩ (.int .u64 (W64 (lo0 + BitVec.ofNat 64 n)))).drewN nq = w1 at hS1 hF1 hown1 hbytes1 hbase1 ⊢
 generalize hlo : lo0 + BitVec.ofNat 64 n = lo at hS1 ⊢
 have HL := Lib.hid hlo
 clear hlo
 have j1 : (n : Int) ≤ (c : Int) := by omega
 obtain ⟨t2, ht2⟩ : ∃ t2, Hid (t2 = k + n) := ⟨_, rfl⟩
 have j2 : (t2 : Int) < (size : Int) := by have := ht2.out; omega
 have j3 : ((t2 : Int) == (size : Int)) = false := by simp; omega
 have hl4 : Hid ((tl ++ l.take n).length = t2) := by show _ = _; rw [List.length_append, List.length_take, hk.out, hlen.out]; have := ht2.out; omega
 refine wp_region_late (by kernel_rfl) (fun w' => StreamAt w' sb size f s q (.slice ta k tc) lo) (fun i => decide (9 ≤ i)) (show StreamAt w1.drew sb size f s q (.slice ta k tc) lo from hS1) (fun hS0 => ?_)
 refine lp 0 rfl hS0 ?_; simp only [Act.put, es1, es2, es3]
 refine lp 1 rfl hS0 ?_; simp only [Act.put, es1, es2, es3]
 refine lp 2 rfl hS0 ?_; simp only [Act.put, es1, es2, es3]
 refine lp 3 rfl hS0 ?_; simp only [Act.put, es1, es2, es3]
 refine lk 4 rfl (by kernel_rfl) (fun _ _ _ h => h) rfl (by intro w9 h9; have ctl : w9.cell? ⟨sb, 6, none⟩ = some (.slice ta k tc) := h9.cell 6 rfl; clear h9; go_simp; try with_reducible rfl) hS0 ?_; simp only [Act.put, es1, es2, es3]
 refine lp 5 rfl hS0 ?_; simp only [Act.put, es1, es2, es3]
 refine lp 6 rfl hS0 ?_; simp only [Act.put, es1, es2, es3]
 refine lp 7 rfl hS0 ?_; simp only [Act.put, es1, es2, es3]
 refine wpLate_next (k := 8) (by kernel_rfl) rfl rfl (fun K hK => ?_)
 refine wp_append_bytes _ _ _ _ _ _ base (.slice ta k tc) tl (by simp [Act.eval]) (hown1.no (Fr.refl No w1).drew) _ _ _ (l.take n) (by simp [Act.eval]) (hbytes1.no (Fr.refl No w1).drew) (by rw [hk.out]; omega) hbase1 ?_
 intro v2 w2 hown2 hfr2d hnew2
 have hfr2 : Fr (fun x => (Value.slice ta k tc).ownBlock = some x) w1 w2 := ((Fr.refl No w1).drew.mono (fun _ _ f => f.elim)).trans hfr2d (fun x h => .inl h)
 obtain ⟨a2, c2, hv2, hb2, _⟩ := hown2.bytes
 rw [hl4.out] at hv2
 subst hv2
 have hS2 : StreamAt w2 sb size f s q (.slice ta k tc) lo := hS1.fr hfr2 hapo
 refine hK.out _ _ (fun _ => hS2) ?_
 clear hK K hS0 hfr2d
 simp only [Act.put, es1, es2, es3]
 refine lk' 9 rfl (by kernel_rfl) (fun _ _ _ h => h) rfl (by intro w9 h9; go_simp; try with_reducible rfl) ?_; simp only [Act.put, es1, es2, es3]
 refine lk' 10 rfl (by kernel_rfl) (fun _ _ _ h => h) rfl (by intro w9 h9; go_simp; try with_reducible rfl) ?_; simp only [Act.put, es1, es2, es3]
 have ctl : w2.cell? ⟨sb, 6, none⟩ = some (.slice ta k tc) := hS2.cell 6 rfl
 have fz2 := hS2.frozen 6
 refine wpLate_next (k := 11) (by kernel_rfl) rfl rfl (fun K hK => ?_)
 go_wp2_with fail
 refine hK.out _ _ (fun h => by simp at h) ?_
 clear hK K
 refine wpLate_done (by kernel_rfl) ?_ _
 have hS3 : StreamAt (w2.setCell ⟨sb, 6, none⟩ (.slice a2 t2 c2)) sb size f s q (.slice a2 t2 c2) lo := hS2.put 6 _ rfl
 have hF23 : Fr (fun x => x = sb) w2 (w2.setCell ⟨sb, 6, none⟩ (.slice a2 t2 c2)) := (Fr.refl (fun x => x = sb) w2).setCell (p := ⟨sb, 6, none⟩) (.inl rfl) _
 have hown3 := hown2.fr hF23 (fun x hx e => hS2.apart hown2 (by rw [hx, e]))
 have hF3 : Fr (Foot sb (.slice ta k tc)) w (w2.setCell ⟨sb, 6, none⟩ (.slice a2 t2 c2)) := (hF1.trans hfr2 (fun x hx => .inl (.inr hx))).trans hF23 (fun x hx => .inl (.inl hx))
 have hnew3 : (Value.slice a2 t2 c2).ownBlock = (Value.slice ta k tc).ownBlock ∨ ∀ x, (Value.slice a2 t2 c2).ownBlock = some x → w.heap.size ≤ x := by
  rcases hnew2 with e | e
  · exact .inl e
  · refine .inr fun x hx => ?_
    rw [e] at hx; cases hx; exact hF1.size
 have hbs3 : base ≤ (w2.setCell ⟨sb, 6, none⟩ (.slice a2 t2 c2)).heap.size := Nat.le_trans hb hF3.size
 have hbo3 := h.fr hF3 hap
 clear hS2 hF23 hfr2 hnew2 hown2 hb2 ctl fz2 hS1 hown1 hF1 hbase1
 generalize (w2.setCell ⟨sb, 6, none⟩ (.slice a2 t2 c2)) = w3 at hS3 hown3 hF3 hbs3 hbo3 ⊢
 have cz : w3.cell? ⟨sb, 0, none⟩ = some (.int .i64 size) := hS3.cell 0 rfl
 have ctl : w3.cell? ⟨sb, 6, none⟩ = some (.slice a2 t2 c2) := hS3.cell 6 rfl
 have j4 : (0 : Int) < (size : Int) := by omega
 have htake : l.take n = l := List.take_of_length_le (by rw [hlen.out]; omega)
 have hdrop : l.drop n = [] := List.drop_of_length_le (by rw [hlen.out]; omega)
 rw [htake] at hown3
 go_wp2_with fail
 go_quiet (fail)
 have hS4 : StreamAt (w3.drewN nq) sb size f s q (.slice a2 t2 c2) lo := hS3
 have hown4 := hown3.no ((Fr.refl No w3).drewN nq)
 have hF4 := hF3.drewN nq
 have hbs4 : base ≤ (w3.drewN nq).heap.size := hbs3
 have hbo4 := (hbo3.no ((Fr.refl No w3).drewN nq)).cut_to_end n (n' := 0) (c' := c - n) (Nat.le_refl _) (by omega) rfl
 rw [hdrop] at hbo4
 clear htake hdrop hS3 hown3 hF3 hbs3 hbo3 cz ctl
 generalize w3.drewN nq = w4 at hS4 hown4 hF4 hbs4 hbo4 ⊢
 have cz : w4.cell? ⟨sb, 0, none⟩ = some (.int .i64 size) := hS4.cell 0 rfl
 have ctl : w4.cell? ⟨sb, 6, none⟩ = some (.slice a2 t2 c2) := hS4.cell 6 rfl
 go_wp2_with fail
 have hlen5 : Hid ((tl ++ l ++ []).length = t2) := by show _ = _; rw [List.length_append, List.length_append, hk.out, hlen.out, ht2.out]; rfl
 refine wp_loop_once ?_
 go_wp2_with (refine wpList_append_bytes _ _ _ _ _ _ base _ (tl ++ l) rfl hown4 _ _ _ [] rfl hbo4 (by rw [List.length_append, hk.out, hlen.out]; omega) hbs4 ?_; intro v5 w5 hown5 hfr5 hnew5; obtain ⟨a5, c5, hv5, _, _⟩ := hown5.bytes; rw [hlen5.out] at hv5; subst hv5; have hst5 := hS4.fr hfr5 (hS4.apart hown4); have ctl5 := hst5.cell 6 rfl; have fz5 := hst5.frozen 6)
 go_end0
 refine ⟨rfl, .slice a5 t2 c5, ?_, ?_, ?_, ?_⟩
 · rw [HL.out]; exact hst5.put 6 _ rfl
 · have := hown5.fr ((Fr.refl (fun x => x = sb) w5).setCell (p := ⟨sb, 6, none⟩) (.inl rfl) (.slice a5 t2 c5)) (fun x hx e => hst5.apart hown5 (by rw [hx, e]))
   simpa using this
 · rcases hnew5 with e | e
   · rw [e]; exact hnew3
   · refine .inr fun x hx => ?_
     rw [e] at hx; cases hx; exact hF4.size
 · exact (hF4.trans hfr5 (fun x hx => by rcases hnew3 with e | e; exact .inl (.inr (by rw [← e]; exact hx)); exact .inr (e x hx))).setCell (.inl (.inl rfl)) _
end Go.Proofs.YtidlpihoafnobaaGreatDoor.StM64
namespace Go.Proofs.YtidlpihoafnobaaGreatDoor.StM64
set_option maxRecDepth 100000
open Go.RowKit
theorem Long_any {w : World} {sb : Nat} {size : Int} {f s : ST} {q : Nat} {tv : Value} {lo : BitVec 64} (hst : StreamAt w sb size f s q tv lo) : Calls Tryz.prog 147 #[.pointer (some ⟨sb, 0, none⟩)] w (Gives (.int .u64 (W64 lo)) w) := by
 have clo : w.cell? ⟨sb, 7, none⟩ = some (.int .u64 (W64 lo)) := hst.cell 7 rfl
 go_enter Tryz.func147, Tryz.ntmps147
 go_wp2_with (go_at_call 206; refine (made_any hst).mono ?_; rintro e w' ⟨rfl, rfl⟩)
 go_ret
 exact ⟨rfl, rfl⟩
theorem Tail_any {w : World} {sb : Nat} {size : Int} {f s : ST} {q : Nat} {tv : Value} {lo : BitVec 64} {base : Nat} {tl : Bytes} (hst : StreamAt w sb size f s q tv lo) (ho : Owns w base tv tl) (hl : tl.length ≤ 1099511627776) : Calls Tryz.prog 146 #[.pointer (some ⟨sb, 0, none⟩)] w (GivesBytes tl w) := by
 obtain ⟨ta, tc, rfl, hb, _⟩ := ho.bytes
 have ctl : w.cell? ⟨sb, 6, none⟩ = some (.slice ta tl.length tc) := hst.cell 6 rfl
 go_enter Tryz.func146, Tryz.ntmps146
 go_wp2_with (first | (go_at_call 206; refine (made_any hst).mono ?_; rintro e w' ⟨rfl, rfl⟩) | (go_at_call 182; refine (Clone_any _ _ _ tl _ hb (by omega)).mono ?_; rintro e w2 ⟨v2, rfl, ho2, hf2⟩))
 go_ret
 exact ⟨v2, rfl, ho2, hf2⟩
theorem State_any {w : World} {sb : Nat} {size : Int} {f s : ST} {q : Nat} {tv : Value} {lo : BitVec 64} (hst0 : StreamAt w sb size f s q tv lo) : Calls Tryz.prog 145 #[.pointer (some ⟨sb, 0, none⟩)] w (GivesS s w) := by
 have hst : StreamAt (w.alloc (.cells ([.int .u64 0, .int .u64 0]).toArray 208)) sb size f s q tv lo := hst0.fr ((Fr.refl No w).alloc _) (fun h => h)
 have cn0 : (w.alloc (.cells #[.int .u64 0, .int .u64 0] 208)).cell? ⟨sb, 3, none⟩ = some (cS s 0) := hst.cell 3 rfl
 have cn1 : (w.alloc (.cells #[.int .u64 0, .int .u64 0] 208)).cell? ⟨sb, 4, none⟩ = some (cS s 1) := hst.cell 4 rfl
 go_enter Tryz.func145, Tryz.ntmps145
 go_wp2_with (go_at_call 206; refine (made_any hst).mono ?_; rintro e w' ⟨rfl, rfl⟩)
 have hB : BoxAt (w.alloc (.cells (boxCells s).toArray 208)) w.heap.size s := heap_alloc_new w _
 have cd0 : (w.alloc (.cells #[cS s 0, cS s 1] 208)).cell? ⟨w.heap.size, 0, none⟩ = some (cS s 0) := hB.cell 0 rfl
 have cd1 : (w.alloc (.cells #[cS s 0, cS s 1] 208)).cell? ⟨w.heap.size, 1, none⟩ = some (cS s 1) := hB.cell 1 rfl
 exact bodyPost_ret (v := .agg #[cS s 0, cS s 1]) (by simp [results, Tryz.results145, go_sem, cd0, cd1]) rfl ⟨rfl, (Fr.refl No w).alloc _⟩
@[go_sem] theorem run_store_fv (k : Nat) (x y : Array Value) (w : World) (a : Addr) (md : Mode) : (store a (.func (.func k) x y) md).run Tryz.prog w = stored Tryz.prog w a (.func (.func k) x y) md := run_store Tryz.prog w a _ md rfl
end Go.Proofs.YtidlpihoafnobaaGreatDoor.StM64
namespace Go.Proofs.YtidlpihoafnobaaGreatDoor.StM64
set_option maxRecDepth 100000
open Go.RowKit
def Str (w : World) (base sb : Nat) (size : Nat) (f s : ST) (q : Nat) (tl : Bytes) (lo : BitVec 64) (tv : Value) : Prop :=
 StreamAt w sb size f s q tv lo ∧ Owns w base tv tl ∧ base ≤ w.heap.size
theorem Write_any {w : World} {base sb size : Nat} {f s : ST} {q : Nat} {tl : Bytes} {lo : BitVec 64} {tv : Value} (E : World → Prop) (G : ST → Bytes → ST) (hS : Str w base sb size f s q tl lo tv)
 (hkeep : ∀ w', Fr (Foot sb tv) w w' → E w') (hstep : Hid (Steps E G size q)) (hz1 : 1 ≤ size) (hz2 : size ≤ 64) (htl : tl.length < size) (a : Option Addr) (n c : Nat) (l : Bytes) (h : IsBytes w a n c l) (hap : Apart (Foot sb tv) a n) (hn : n ≤ 1099511627776) :
 Calls Tryz.prog 293 #[.pointer (some ⟨sb, 0, none⟩), .slice a n c] w (Wrote base sb size f q tv (foldF G size s (tl ++ l)) (lo + BitVec.ofNat 64 n) w) := by
 obtain ⟨hst, ho, hb⟩ := hS
 obtain ⟨ta, tc, rfl, hbt, _⟩ := ho.bytes
 have hE := hkeep w (Fr.refl _ w)
 obtain ⟨k, hk⟩ : ∃ k, tl.length = k := ⟨_, rfl⟩
 rw [hk] at hst ho hkeep htl hap ⊢
 rcases Nat.eq_zero_or_pos k with e | hpos
 · subst e
   obtain rfl : tl = [] := List.eq_nil_of_length_eq_zero hk
   exact Write_empty E base sb size f s q ta tc lo a n c l w G hE hkeep hstep hst ho hb hz1 hz2 h hap hn
 · by_cases hp : k + n < size
   · have := Write_part E base sb size f s q ta k tc tl lo a n c l w G hE hkeep hstep hst ho hb hz1 hz2 hk hpos htl h hap hn hp
     rwa [← foldF_short (F := G) (s := s) (size := size) (l := tl ++ l) (by rw [List.length_append, hk, h.1]; exact hp)] at this
   · exact Write_fill E base sb size f s q ta k tc tl lo a n c l w G hE hkeep hstep hst ho hb hz1 hz2 hk hpos htl h hap hn (by omega) _ rfl
end Go.Proofs.YtidlpihoafnobaaGreatDoor.StM64
namespace Go.Proofs.YtidlpihoafnobaaGreatDoor.StM64
set_option maxRecDepth 100000
open Go.RowKit
structure Live (w0 w : World) (sb size : Nat) (f s : ST) (q : Nat) (tl : Bytes) (lo : BitVec 64) (tv : Value) : Prop where
 st : StreamAt w sb size f s q tv lo
 ow : Owns w w0.heap.size tv tl
 ge : w0.heap.size ≤ sb
 fr : Fr No w0 w
theorem own_lt {w : World} {base : Nat} {v : Value} {l : Bytes} (h : Owns w base v l) {x : Nat} (hx : v.ownBlock = some x) : x < w.heap.size := by
 obtain ⟨a, c, rfl, _, hb⟩ := h.bytes
 cases a with
 | none => simp [Value.ownBlock] at hx
 | some y => simp [Value.ownBlock] at hx; have := (hb y rfl).2; omega
section
variable {w0 w w' : World} {sb size : Nat} {f s : ST} {q : Nat} {tl : Bytes} {lo : BitVec 64} {tv : Value}
theorem Live.lt (h : Live w0 w sb size f s q tl lo tv) : ∀ x, Foot sb tv x → x < w.heap.size := fun x hx => by
 rcases hx with rfl | hx
 · exact h.st.lt
 · exact own_lt h.ow hx
theorem Live.above (h : Live w0 w sb size f s q tl lo tv) : ∀ x, Foot sb tv x → w0.heap.size ≤ x := fun x hx => by
 rcases hx with rfl | hx
 · exact h.ge
 · exact own_ge h.ow hx
theorem Live.keep {F : Nat → Prop} (h : Live w0 w sb size f s q tl lo tv) (k : Fr F w w') (hF : ∀ x, F x → ¬ Foot sb tv x) (hA : ∀ x, F x → w0.heap.size ≤ x) : Live w0 w' sb size f s q tl lo tv :=
 ⟨h.st.fr k (fun g => hF _ g (.inl rfl)), h.ow.fr k (fun x hx g => hF x g (.inr hx)), h.ge, h.fr.trans k (fun x hx => .inr (hA x hx))⟩
theorem Live.no (h : Live w0 w sb size f s q tl lo tv) (k : Fr No w w') : Live w0 w' sb size f s q tl lo tv := h.keep k (fun _ g => g.elim) (fun _ g => g.elim)
theorem Live.drew (h : Live w0 w sb size f s q tl lo tv) : Live w0 w.drew sb size f s q tl lo tv := h.no (Fr.refl No w).drew
theorem Live.con (h : Live w0 w sb size f s q tl lo tv) : Keeps w (Foot sb tv) := fun x o ho hc g => by
 rcases g with rfl | g
 · obtain ⟨cs, T, e, hT⟩ := hc
   have hst := h.st
   unfold StreamAt at hst
   rw [hst] at ho
   rw [e] at ho
   simp at ho
   rw [← ho.2] at hT
   exact absurd hT (by decide)
 · exact Keeps.own h.ow x o ho hc g
def Sep (sb : Nat) (tv : Value) (sb' : Nat) (tv' : Value) : Prop := ∀ x, Foot sb tv x → ¬ Foot sb' tv' x
theorem Sep.symm {sb sb' : Nat} {tv tv' : Value} (h : Sep sb tv sb' tv') : Sep sb' tv' sb tv := fun x h1 h2 => h x h2 h1
def LiveWrote (w0 : World) (sb size : Nat) (f : ST) (q : Nat) (tv : Value) (r : ST × Bytes) (lo : BitVec 64) (w : World) (e : Ending) (w' : World) : Prop :=
 e = .returned (.tuple #[]) ∧ ∃ tv', Live w0 w' sb size f r.1 q r.2 lo tv' ∧ Fr (Foot sb tv) w w' ∧ (tv'.ownBlock = tv.ownBlock ∨ ∀ x, tv'.ownBlock = some x → w.heap.size ≤ x)
theorem live_write (E : World → Prop) (G : ST → Bytes → ST) (h : Live w0 w sb size f s q tl lo tv) (hkeep : ∀ w', Fr (Foot sb tv) w w' → E w') (hstep : Hid (Steps E G size q)) (hz1 : 1 ≤ size) (hz2 : size ≤ 64) (htl : tl.length < size)
 (a : Option Addr) (n c : Nat) (l : Bytes) (hb : IsBytes w a n c l) (hap : Apart (Foot sb tv) a n) (hn : n ≤ 1099511627776) :
 Calls Tryz.prog 293 #[.pointer (some ⟨sb, 0, none⟩), .slice a n c] w (LiveWrote w0 sb size f q tv (foldF G size s (tl ++ l)) (lo + BitVec.ofNat 64 n) w) := by
 refine (Write_any E G ⟨h.st, h.ow, h.fr.size⟩ hkeep hstep hz1 hz2 htl a n c l hb hap hn).mono ?_
 rintro e w' ⟨rfl, tv', hst, hown, hnew, hfr⟩
 exact ⟨rfl, tv', ⟨hst, hown, h.ge, h.fr.trans hfr (fun x hx => .inr (h.above x hx))⟩, hfr, hnew⟩
end
end Go.Proofs.YtidlpihoafnobaaGreatDoor.StM64
