/- StreamM64 FoldM64 -/
import Derived.Deep.QuietTactic
import Derived.Deep.RegionHeld3
import Derived.Test.YtidlpihoafnobaaGreatDoorPStreamG32
set_option linter.unusedVariables false
set_option linter.unusedSimpArgs false
namespace Go.Proofs.YtidlpihoafnobaaGreatDoor.StM64
set_option maxRecDepth 100000
open Go.RowKit
abbrev ST := BitVec 64 × BitVec 64
def cS (s : ST) (i : Nat) : Value := match i with | 0 => .int .u64 (W64 s.1) | _ => .int .u64 (W64 s.2)
theorem cS_one (s : ST) (i : Nat) : (cS s i).oneCell' = true := by unfold cS; (try split) <;> rfl
@[go_sem] theorem run_store_cS (w : World) (a : Addr) (s : ST) (i : Nat) (md : Mode) : (store a (cS s i) md).run Tryz.prog w = stored Tryz.prog w a (cS s i) md := run_store Tryz.prog w a _ md (cS_one s i)
def fvS (q : Nat) : Value := (.func (.func 141) #[] #[])
def stCells (size : Int) (f s : ST) (q : Nat) (tv : Value) (lo : BitVec 64) : List Value := [.int .i64 size, cS f 0, cS f 1, cS s 0, cS s 1, fvS q, tv, .int .u64 (W64 lo)]
def StreamAt (w : World) (sb : Nat) (size : Int) (f s : ST) (q : Nat) (tv : Value) (lo : BitVec 64) : Prop := w.heap[sb]? = some (.cells (stCells size f s q tv lo).toArray 264 (0, 0))
def GivesS (s : ST) (w : World) (e : Ending) (w' : World) : Prop := e = .returned (.agg #[cS s 0, cS s 1]) ∧ Fr No w w'
theorem neq_fv (q : Nat) (w : World) : (binOp .neq 212 ((.func (.func 141) #[] #[])) .nilFunc).run Tryz.prog w = .ok (.bool true) w := by kernel_rfl
theorem stepped_any (q : Nat) (w : World) : Calls Tryz.prog 201 #[(.func (.func 141) #[] #[])] w (Gives ((.func (.func 141) #[] #[])) w) := by
 have hq := neq_fv q
 go_enter Tryz.func201, Tryz.ntmps201
 go_wp2
 go_ret
 exact ⟨rfl, rfl⟩
def GivesStream (size : Int) (f s : ST) (q : Nat) (w : World) (e : Ending) (w' : World) : Prop := ∃ sb, e = .returned (.pointer (some ⟨sb, 0, none⟩)) ∧ w.heap.size ≤ sb ∧ sb < w'.heap.size ∧ StreamAt w' sb size f s q (.slice none 0 0) 0#64 ∧ Fr No w w'
set_option maxHeartbeats 1000000 in
theorem New_any (size : Int) (f : ST) (q : Nat) (w : World) (h1 : -9223372036854775808 ≤ size) (h2 : size ≤ 9223372036854775807) :
 Calls Tryz.prog 143 #[.int .i64 size, .agg #[cS f 0, cS f 1], (.func (.func 141) #[] #[])] w (GivesStream (sizeOk size) f f q w) := by
 have hq := sizeOk_bd size
 go_enter Tryz.func143, Tryz.ntmps143
 go_wp2
 go_region_held3 (fun w' => w'.cell? ⟨w.heap.size, 0, none⟩ = some (cS f 0) ∧ w'.cell? ⟨w.heap.size, 1, none⟩ = some (cS f 1)) (go_keep) (first | (go_at_call 180; refine (sized_any _ _ h1 h2).mono ?_; rintro e w' ⟨rfl, rfl⟩) | (go_at_call 201; refine (stepped_any q _).mono ?_; rintro e w' ⟨rfl, rfl⟩))
 all_goals go_wp2
 all_goals go_ret
 all_goals exact ⟨w.heap.size + 1, rfl, by omega, by simp, heap_alloc2_new w _ _, (((Fr.refl _ _).alloc _).alloc _).drew⟩
theorem StreamAt.cell {w : World} {sb : Nat} {size : Int} {f s : ST} {q : Nat} {tv : Value} {lo : BitVec 64} (h : StreamAt w sb size f s q tv lo) (k : Nat) {v : Value} (hk : (stCells size f s q tv lo)[k]? = some v) : w.cell? ⟨sb, k, none⟩ = some v := by
 rw [cell_of_row w sb k _ _ _ h, List.getElem?_toArray]; exact hk
theorem StreamAt.frozen {w : World} {sb : Nat} {size : Int} {f s : ST} {q : Nat} {tv : Value} {lo : BitVec 64} (h : StreamAt w sb size f s q tv lo) (k : Nat) : w.frozen? ⟨sb, k, none⟩ = false := frozen_of_row w sb k _ _ h
theorem StreamAt.lt {w : World} {sb : Nat} {size : Int} {f s : ST} {q : Nat} {tv : Value} {lo : BitVec 64} (h : StreamAt w sb size f s q tv lo) : sb < w.heap.size := (Array.getElem?_eq_some_iff.1 h).1
theorem StreamAt.fr {F : Nat → Prop} {w w' : World} {sb : Nat} {size : Int} {f s : ST} {q : Nat} {tv : Value} {lo : BitVec 64} (h : StreamAt w sb size f s q tv lo) (k : Fr F w w') (hF : ¬ F sb) : StreamAt w' sb size f s q tv lo := k.heap hF h
theorem StreamAt.apart {w : World} {sb : Nat} {size : Int} {f s : ST} {q : Nat} {tv v : Value} {lo : BitVec 64} {base : Nat} {l : Bytes} (h : StreamAt w sb size f s q tv lo) (ho : Owns w base v l) : v.ownBlock ≠ some sb := fun e => by
 rcases ho.2 with ⟨rfl, _⟩ | ⟨g, cap, cur, rfl, _, hg, _⟩
 · simp [Value.ownBlock] at e
 · simp [Value.ownBlock] at e
   subst e
   rw [h] at hg
   simp at hg
theorem row_put {w : World} {sb : Nat} {cs : List Value} (h : w.heap[sb]? = some (.cells cs.toArray 264 (0, 0))) (k : Nat) (v : Value) : (w.setCell ⟨sb, k, none⟩ v).heap[sb]? = some (.cells (cs.set k v).toArray 264 (0, 0)) := by
 rw [heap_setCell_same w sb k _ _ v h, List.setIfInBounds_toArray]
theorem StreamAt.put {w : World} {sb : Nat} {size : Int} {f s s' : ST} {q : Nat} {tv tv' : Value} {lo lo' : BitVec 64} (h : StreamAt w sb size f s q tv lo) (k : Nat) (v : Value) (he : (stCells size f s q tv lo).set k v = stCells size f s' q tv' lo') : StreamAt (w.setCell ⟨sb, k, none⟩ v) sb size f s' q tv' lo' := by
 unfold StreamAt
 rw [heap_setCell_same w sb k _ _ v h]
 simp only [List.setIfInBounds_toArray, he]
def Foot (sb : Nat) (tv : Value) (x : Nat) : Prop := x = sb ∨ tv.ownBlock = some x
theorem made_any {w : World} {sb : Nat} {size : Int} {f s : ST} {q : Nat} {tv : Value} {lo : BitVec 64} (h : StreamAt w sb size f s q tv lo) : Calls Tryz.prog 206 #[.pointer (some ⟨sb, 0, none⟩)] w (Gives (.bool true) w) := by
 have cst : w.cell? ⟨sb, 5, none⟩ = some ((.func (.func 141) #[] #[])) := h.cell 5 rfl
 have hq := neq_fv q
 go_enter Tryz.func206, Tryz.ntmps206
 go_wp2
 go_ret
 exact ⟨rfl, rfl⟩
def Steps (E : World → Prop) (G : ST → Bytes → ST) (size q : Nat) : Prop := ∀ (w : World) (s : ST) (a : Option Addr) (n c : Nat) (l : Bytes), E w → IsBytes w a n c l → l.length = size →
 Calls Tryz.prog 141 #[.agg #[cS s 0, cS s 1], .slice a n c] w (GivesS (G s l) w)
end Go.Proofs.YtidlpihoafnobaaGreatDoor.StM64
namespace Go.Proofs.YtidlpihoafnobaaGreatDoor.StM64
set_option maxRecDepth 100000
open Go.RowKit
def boxCells (s : ST) : List Value := [cS s 0, cS s 1]
def BoxAt (w : World) (b : Nat) (s : ST) : Prop := w.heap[b]? = some (.cells (boxCells s).toArray 208 (0, 0))
theorem BoxAt.cell {w : World} {b : Nat} {s : ST} (h : BoxAt w b s) (k : Nat) {v : Value} (hk : (boxCells s)[k]? = some v) : w.cell? ⟨b, k, none⟩ = some v := by
 rw [cell_of_row w b k _ _ _ h, List.getElem?_toArray]; exact hk
theorem BoxAt.frozen {w : World} {b : Nat} {s : ST} (h : BoxAt w b s) (k : Nat) : w.frozen? ⟨b, k, none⟩ = false := frozen_of_row w b k _ _ h
theorem BoxAt.lt {w : World} {b : Nat} {s : ST} (h : BoxAt w b s) : b < w.heap.size := (Array.getElem?_eq_some_iff.1 h).1
theorem BoxAt.fr {F : Nat → Prop} {w w' : World} {b : Nat} {s : ST} (h : BoxAt w b s) (k : Fr F w w') (hF : ¬ F b) : BoxAt w' b s := k.heap hF h
theorem box_put {w : World} {b : Nat} {cs : List Value} (h : w.heap[b]? = some (.cells cs.toArray 208 (0, 0))) (k : Nat) (v : Value) : (w.setCell ⟨b, k, none⟩ v).heap[b]? = some (.cells (cs.set k v).toArray 208 (0, 0)) := by
 rw [heap_setCell_same w b k _ _ v h, List.setIfInBounds_toArray]
def GivesFold (r : ST × Bytes) (w : World) (e : Ending) (w' : World) : Prop := ∃ v, e = .returned (.tuple #[.agg #[cS r.1 0, cS r.1 1], v]) ∧ Owns w' w.heap.size v r.2 ∧ Fr No w w'
theorem own_ge {w : World} {base : Nat} {v : Value} {l : Bytes} (h : Owns w base v l) {x : Nat} (hx : v.ownBlock = some x) : base ≤ x := by
 rcases h.2 with ⟨rfl, _⟩ | ⟨g, cap, cur, rfl, hb, _⟩
 · simp [Value.ownBlock] at hx
 · simp [Value.ownBlock] at hx; omega
def FoldAt (G : ST → Bytes → ST) (size pb : Nat) (w0 : World) (r : ST × Bytes) (v : Value) (wr : World) (n : Nat) : Prop :=
 ∃ a c l s, v = .slice a n c ∧ IsBytes w0 a n c l ∧ n ≤ 1099511627776 ∧ BoxAt wr pb s ∧ wr.heap[pb + 1]? = some (.cells ([.int .u64 0, .int .u64 0]).toArray 208 (0, 0)) ∧ Fr No w0 wr ∧ foldF G size s l = r
set_option maxHeartbeats 4000000 in
theorem Fold_any (E : World → Prop) (G : ST → Bytes → ST) (sz : Int) (size : Nat) (s : ST) (q : Nat) (a : Option Addr) (n c : Nat) (l : Bytes) (w : World)
 (hkeep : ∀ w', Fr No w w' → E w') (hstep : Hid (Steps E G size q)) (h1 : -9223372036854775808 ≤ sz) (h2 : sz ≤ 9223372036854775807) (hsz : sizeOk sz = size) (h : IsBytes w a n c l) (hn : n ≤ 1099511627776) :
 Calls Tryz.prog 139 #[.int .i64 sz, .agg #[cS s 0, cS s 1], (.func (.func 141) #[] #[]), .slice a n c] w (GivesFold (foldF G size s l) w) := by
 obtain ⟨r, hr⟩ : ∃ r, r = foldF G size s l := ⟨_, rfl⟩
 rw [← hr]
 have hz1 : 1 ≤ size := by have := sizeOk_bd sz; omega
 have hz2 : size ≤ 64 := by have := sizeOk_bd sz; omega
 go_enter Tryz.func139, Tryz.ntmps139
 go_wp2_with (first | (go_at_call 180; refine (sized_any _ _ h1 h2).mono ?_; rintro e w' ⟨rfl, rfl⟩; rw [hsz]) | (go_at_call 201; refine (stepped_any q _).mono ?_; rintro e w' ⟨rfl, rfl⟩))
 have hA : BoxAt (w.alloc (.cells (boxCells s).toArray 208)) w.heap.size s := heap_alloc_new w _
 have hbox : BoxAt ((w.alloc (.cells (boxCells s).toArray 208)).alloc (.cells ([.int .u64 0, .int .u64 0]).toArray 208)) w.heap.size s := hA.fr ((Fr.refl No _).alloc _) (fun h => h)
 have hloop : FoldAt G size w.heap.size w r (.slice a n c) ((w.alloc (.cells (boxCells s).toArray 208)).alloc (.cells ([.int .u64 0, .int .u64 0]).toArray 208)) n :=
  ⟨a, c, l, s, rfl, h, hn, hbox, heap_alloc2_new w _ _, ((Fr.refl No w).alloc _).alloc _, hr.symm⟩
 clear hA hbox h hn hr hsz
 simp only [boxCells] at hloop
 go_loopw [3] (fun v wr => ∃ m, FoldAt G size w.heap.size w r v wr m) (fun v _ => match v with | .slice _ m _ => m | _ => 0)
 case atStart => exact ⟨_, hloop⟩
 case round =>
  obtain ⟨m, a', c', l', s', rfl, hb0, hm', hbox', hres', hfr', hr'⟩ := hrel
  clear hloop
  have hb' := hb0.no hfr'
  have hlen' := Lib.hid hb'.1
  have hc' : m ≤ c' := hb'.2.1
  have hc'' : c' ≤ 9223372036854775807 := hb'.2.2.1
  by_cases hlt : size ≤ m
  · have i1 : (size : Int) ≤ (m : Int) := by omega
    have i2 : (size : Int) ≤ (c' : Int) := by omega
    go_wp2_with fail
    have hcut := Lib.hid (hb'.head size size (n' := size) (c' := size) hlt (Nat.le_refl _) (by omega) rfl rfl)
    refine wp_region_late (by kernel_rfl) (fun w' => BoxAt w' w.heap.size s') (fun i => decide (8 ≤ i)) (show BoxAt wr.drew w.heap.size s' from hbox') (fun hS0 => ?_)
    refine lp 0 rfl hS0 ?_; simp only [Act.put, es1, es2, es3]
    refine lk 1 rfl (by kernel_rfl) (fun _ _ _ h => h) rfl (by intro w9 h9; have cb0 : w9.cell? ⟨w.heap.size, 0, none⟩ = some (cS s' 0) := h9.cell 0 rfl; have cb1 : w9.cell? ⟨w.heap.size, 1, none⟩ = some (cS s' 1) := h9.cell 1 rfl; clear h9; go_simp; try with_reducible rfl) hS0 ?_; simp only [Act.put, es1, es2, es3]
    refine lp 2 rfl hS0 ?_; simp only [Act.put, es1, es2, es3]
    refine lp 3 rfl hS0 ?_; simp only [Act.put, es1, es2, es3]
    refine lp 4 rfl hS0 ?_; simp only [Act.put, es1, es2, es3]
    refine lp 5 rfl hS0 ?_; simp only [Act.put, es1, es2, es3]
    refine wpLate_next (k := 6) (by kernel_rfl) rfl rfl (fun K hK => ?_)
    go_wp2_with fail
    refine (Clone_any _ _ _ (l'.take size) _ (hcut.out.no (Fr.refl No wr).drew) (by omega)).mono ?_
    rintro e w2 ⟨v2, rfl, ho2, hf2d⟩
    have hf2 : Fr No wr w2 := (Fr.refl No wr).drew.no hf2d
    clear hf2d
    obtain ⟨a2, c2, rfl, hb2, _⟩ := ho2.bytes
    have hl2 : (l'.take size).length = size := by rw [List.length_take, hlen'.out]; omega
    rw [hl2] at hb2 ⊢
    have hS2 : BoxAt w2 w.heap.size s' := hbox'.fr hf2 (fun h => h)
    refine hK.out _ _ (fun _ => hS2) ?_
    clear hK K ho2 hS0
    refine wpLate_next (k := 7) (by kernel_rfl) rfl rfl (fun K hK => ?_)
    go_wp2_with fail
    refine (hstep.out _ _ _ _ _ _ (hkeep w2 (hfr'.no hf2)) hb2 hl2).mono ?_
    rintro e w3 ⟨rfl, hf3⟩
    have hS3 : BoxAt w3 w.heap.size s' := hS2.fr hf3 (fun h => h)
    refine hK.out _ _ (fun _ => hS3) ?_
    clear hK K hb2 hl2 hS2
    have cb0 : w3.cell? ⟨w.heap.size, 0, none⟩ = some (cS s' 0) := hS3.cell 0 rfl
    have cb1 : w3.cell? ⟨w.heap.size, 1, none⟩ = some (cS s' 1) := hS3.cell 1 rfl
    have fz0 := hS3.frozen 0
    have fz1 := hS3.frozen 1
    refine wpLate_next (k := 8) (by kernel_rfl) rfl rfl (fun K hK => ?_)
    go_wp2_with fail
    refine hK.out _ _ (fun h => by simp at h) ?_
    clear hK K
    refine wpLate_done (by kernel_rfl) ?_ _
    have hS4 : BoxAt (World.setCell (World.setCell w3 ⟨w.heap.size, 0, none⟩ (cS (G s' (l'.take size)) 0)) ⟨w.heap.size, 1, none⟩ (cS (G s' (l'.take size)) 1)) w.heap.size (G s' (l'.take size)) := (box_put (box_put hS3 0 (cS (G s' (l'.take size)) 0)) 1 (cS (G s' (l'.take size)) 1))
    have hF4 : Fr (fun x => x = w.heap.size) w3 (World.setCell (World.setCell w3 ⟨w.heap.size, 0, none⟩ (cS (G s' (l'.take size)) 0)) ⟨w.heap.size, 1, none⟩ (cS (G s' (l'.take size)) 1)) := ((Fr.refl (fun x => x = w.heap.size) w3).setCell (p := ⟨w.heap.size, 0, none⟩) (.inl rfl) _).setCell (p := ⟨w.heap.size, 1, none⟩) (.inl rfl) _
    clear cb0 fz0 cb1 fz1 hS3
    generalize (World.setCell (World.setCell w3 ⟨w.heap.size, 0, none⟩ (cS (G s' (l'.take size)) 0)) ⟨w.heap.size, 1, none⟩ (cS (G s' (l'.take size)) 1)) = w4 at hS4 hF4 ⊢
    have hF34 : Fr (fun x => x = w.heap.size) wr w4 := ((hf2.no hf3).mono (fun _ _ f => f.elim)).trans hF4 (fun x h => .inl h)
    have hcut2 := hb0.cut_to_end size (n' := m - size) (c' := c' - size) hlt rfl rfl
    have hfe : Fr No w w4 := hfr'.trans hF34 (fun x h => .inr (by omega))
    go_wp2_with fail
    go_roundw
    case rel => exact ⟨m - size, _, _, _, _, rfl, hcut2, by omega, hS4, hF34.heap (by omega) hres', hfe, by rw [← hr']; exact (foldF_step hz1 (by rw [hlen'.out]; exact hlt)).symm⟩
    case measure => simp; omega
  · have i1 : (m : Int) < (size : Int) := by omega
    go_wp2_with fail
    refine wp_region_late (by kernel_rfl) (fun w' => BoxAt w' w.heap.size s') (fun i => decide (5 ≤ i)) (show BoxAt wr.drew w.heap.size s' from hbox') (fun hS0 => ?_)
    refine lk 0 rfl (by kernel_rfl) (fun _ _ _ h => h) rfl (by intro w9 h9; have cb0 : w9.cell? ⟨w.heap.size, 0, none⟩ = some (cS s' 0) := h9.cell 0 rfl; have cb1 : w9.cell? ⟨w.heap.size, 1, none⟩ = some (cS s' 1) := h9.cell 1 rfl; clear h9; go_simp; try with_reducible rfl) hS0 ?_; simp only [Act.put, es1, es2, es3]
    refine lp 1 rfl hS0 ?_; simp only [Act.put, es1, es2, es3]
    refine wpLate_next (k := 2) (by kernel_rfl) rfl rfl (fun K hK => ?_)
    go_wp2_with fail
    refine (Clone_any _ _ _ l' _ (hb'.no (Fr.refl No wr).drew) (by omega)).mono ?_
    rintro e w2 ⟨v2, rfl, ho2, hf2d⟩
    have hf2 : Fr No wr w2 := (Fr.refl No wr).drew.no hf2d
    clear hf2d
    have hS2 : BoxAt w2 w.heap.size s' := hbox'.fr hf2 (fun h => h)
    refine hK.out _ _ (fun _ => hS2) ?_
    clear hK K hS0
    have hR2 := hf2.heap (fun h => h) hres'
    have cr0 : w2.cell? ⟨w.heap.size + 1, 0, none⟩ = some (.int .u64 0) := by rw [cell_of_row w2 _ 0 _ _ _ hR2]; rfl
    have cr1 : w2.cell? ⟨w.heap.size + 1, 1, none⟩ = some (.int .u64 0) := by rw [cell_of_row w2 _ 1 _ _ _ hR2]; rfl
    have fr0 := frozen_of_row w2 (w.heap.size + 1) 0 _ _ hR2
    have fr1 := frozen_of_row w2 (w.heap.size + 1) 1 _ _ hR2
    have hF3 : Fr (fun x => x = w.heap.size + 1) w2 (World.setCell (World.setCell w2 ⟨w.heap.size + 1, 0, none⟩ (cS s' 0)) ⟨w.heap.size + 1, 1, none⟩ (cS s' 1)) := ((Fr.refl (fun x => x = w.heap.size + 1) w2).setCell (p := ⟨w.heap.size + 1, 0, none⟩) (.inl rfl) _).setCell (p := ⟨w.heap.size + 1, 1, none⟩) (.inl rfl) _
    have hB3 : BoxAt (World.setCell (World.setCell w2 ⟨w.heap.size + 1, 0, none⟩ (cS s' 0)) ⟨w.heap.size + 1, 1, none⟩ (cS s' 1)) w.heap.size s' := hS2.fr hF3 (fun h => by omega)
    refine wpLate_next (k := 3) (by kernel_rfl) rfl rfl (fun K hK => ?_)
    go_wp2_with fail
    refine hK.out _ _ (fun _ => hB3) ?_
    clear hK K
    refine wpLate_next (k := 4) (by kernel_rfl) rfl rfl (fun K hK => ?_)
    go_wp2_with fail
    refine hK.out _ _ (fun _ => hB3) ?_
    clear hK K hB3
    refine wpLate_done (by kernel_rfl) ?_ _
    have hS3 : BoxAt (World.setCell (World.setCell w2 ⟨w.heap.size + 1, 0, none⟩ (cS s' 0)) ⟨w.heap.size + 1, 1, none⟩ (cS s' 1)) (w.heap.size + 1) s' := (box_put (box_put hR2 0 (cS s' 0)) 1 (cS s' 1))
    clear cr0 fr0 cr1 fr1
    generalize (World.setCell (World.setCell w2 ⟨w.heap.size + 1, 0, none⟩ (cS s' 0)) ⟨w.heap.size + 1, 1, none⟩ (cS s' 1)) = w3 at hS3 hF3 ⊢
    have cd0 : w3.cell? ⟨w.heap.size + 1, 0, none⟩ = some (cS s' 0) := hS3.cell 0 rfl
    have cd1 : w3.cell? ⟨w.heap.size + 1, 1, none⟩ = some (cS s' 1) := hS3.cell 1 rfl
    go_wp2_with fail
    refine bodyPost_ret (v := .tuple #[.agg #[cS s' 0, cS s' 1], v2]) (by simp [results, Tryz.results139, go_sem, cd0, cd1]) rfl ?_
    have hsh : foldF G size s' l' = (s', l') := foldF_short (by rw [hlen'.out]; omega)
    refine ⟨v2, ?_, ?_, ?_⟩
    · rw [← hr', hsh]
    · rw [← hr', hsh]; exact (ho2.fr hF3 (fun x hx e => by have := own_ge ho2 hx; have := (Array.getElem?_eq_some_iff.1 hres').1; have hd : wr.drew.heap.size = wr.heap.size := rfl; omega)).mono (hfr'.size)
    · exact (hfr'.no hf2).trans hF3 (fun x h => .inr (by omega))
end Go.Proofs.YtidlpihoafnobaaGreatDoor.StM64
