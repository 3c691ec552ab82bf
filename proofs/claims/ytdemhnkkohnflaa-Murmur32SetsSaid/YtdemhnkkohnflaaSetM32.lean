/- block.Stream[uint32].Set. -/
import Derived.Test.YtdemhnkkohnflaaLiveM32
import Derived.Test.YtdemhnkkohnflaaWords2
import Derived.Test.YtdemhnkkohnflaaSeq
namespace Go.Proofs.Ytdemhnkkohnflaa.StM32
set_option linter.unusedVariables false
set_option linter.unusedSimpArgs false
open Go.RowKit

/-- Does so many waiting bytes fit how many came? -/
def fitsB (n : Nat) (lo : BitVec 64) (size : Nat) : Bool := BitVec.ofNat 64 n == lo % BitVec.ofNat 64 size
theorem size_ne (size : Nat) (hz1 : 1 ≤ size) (hz2 : size ≤ 64) : (BitVec.ofNat 64 size == 0#64) = false := by
  rw [beq_eq_false_iff_ne]
  intro h
  have := ofNat_inj' (n := size) (m := 0) (by omega) (by omega) h
  omega
theorem Set_no {w : World} {sb size : Nat} {f s : ST} {q : Nat} {tv : Value} {lo : BitVec 64} (hst : StreamAt w sb size f s q tv lo) (hz1 : 1 ≤ size) (hz2 : size ≤ 64) (s2 : ST) (lo2 : BitVec 64) (a : Option Addr) (n c : Nat) (hfit : fitsB n lo2 size = false) :
    Calls Try.prog 34 #[.pointer (some ⟨sb, 0, none⟩), (.int .u32 (W32 s2)), .int .u64 (W64 lo2), .slice a n c] w (GivesNew (.bool false) w) := by
  have hz := size_ne size hz1 hz2
  have hz' : ¬ BitVec.ofNat 64 size = 0#64 := by simpa using hz
  unfold fitsB at hfit
  have hfit' : (BitVec.ofNat 64 n != lo2 % BitVec.ofNat 64 size) = true := by simp [bne, hfit]
  have hfit2 : ¬ BitVec.ofNat 64 n = lo2 % BitVec.ofNat 64 size := by simpa using hfit
  have hst1 : StreamAt w sb size f s q tv lo := hst
  have cz : w.cell? ⟨sb, 0, none⟩ = some (.int .i64 size) := hst1.cell 0 rfl
  go_enter Try.func34, Try.ntmps34
  go_wp2_with (go_at_call 46; refine (made_any hst1).mono ?_; rintro e w' ⟨rfl, rfl⟩)
  go_ret
  exact ⟨rfl, Fr.refl _ _⟩
/-- What is set. -/
def Sets (size : Int) (f s2 : ST) (q : Nat) (sb : Nat) (l : Bytes) (lo2 : BitVec 64) (w : World) (e : Ending) (w' : World) : Prop :=
  ∃ tv2, e = .returned (.bool true) ∧ StreamAt w' sb size f s2 q tv2 lo2 ∧ Owns w' w.heap.size tv2 l ∧ Fr (fun x => x = sb) w w'
set_option maxHeartbeats 1000000 in
theorem Set_yes {w : World} {sb size : Nat} {f s : ST} {q : Nat} {tv : Value} {lo : BitVec 64} (hst : StreamAt w sb size f s q tv lo) (hz1 : 1 ≤ size) (hz2 : size ≤ 64) (s2 : ST) (lo2 : BitVec 64) (a : Option Addr) (n c : Nat) (l : Bytes) (hb : IsBytes w a n c l) (hn : n ≤ 1099511627776) (hfit : fitsB n lo2 size = true) :
    Calls Try.prog 34 #[.pointer (some ⟨sb, 0, none⟩), (.int .u32 (W32 s2)), .int .u64 (W64 lo2), .slice a n c] w (Sets size f s2 q sb l lo2 w) := by
  have hz := size_ne size hz1 hz2
  have hz' : ¬ BitVec.ofNat 64 size = 0#64 := by simpa using hz
  unfold fitsB at hfit
  have hfit' : (BitVec.ofNat 64 n != lo2 % BitVec.ofNat 64 size) = false := by simp [bne, hfit]
  have hst1 : StreamAt w sb size f s q tv lo := hst
  have hF1 : Fr No w w := Fr.refl _ _
  have hb1 := hb.no hF1
  have hlt := hst.lt
  have cz : w.cell? ⟨sb, 0, none⟩ = some (.int .i64 size) := hst1.cell 0 rfl
  go_enter Try.func34, Try.ntmps34
  go_wp2_with (go_at_call 46; refine (made_any hst1).mono ?_; rintro e w' ⟨rfl, rfl⟩)
  clear hfit hfit' hz hz'

  go_wp2_with fail
  refine (Clone_any _ _ _ l _ hb1 (by omega)).mono ?_
  rintro e w2 ⟨v2, rfl, ho2, hf2⟩
  obtain ⟨a2, c2, rfl, _, _⟩ := ho2.bytes
  have hS2 := hst1.fr hf2 (fun h => h)
  have cn0 : w2.cell? ⟨sb, 2, none⟩ = some (.int .u32 (W32 s)) := hS2.cell 2 rfl
  have ctl : w2.cell? ⟨sb, 4, none⟩ = some (tv) := hS2.cell 4 rfl
  have clo : w2.cell? ⟨sb, 5, none⟩ = some (.int .u64 (W64 lo)) := hS2.cell 5 rfl
  have fz2 := hS2.frozen 2
  have fz4 := hS2.frozen 4
  have fz5 := hS2.frozen 5
  go_wp2_with fail
  go_ret
  exact ⟨_, rfl, (row_put (row_put (row_put hS2 2 (.int .u32 (W32 s2))) 5 (.int .u64 (W64 lo2))) 4 (.slice a2 l.length c2)), ho2.fr ((((Fr.refl (fun x => x = sb) w2).setCell (p := ⟨sb, 2, none⟩) (.inl rfl) _).setCell (p := ⟨sb, 5, none⟩) (.inl rfl) _).setCell (p := ⟨sb, 4, none⟩) (.inl rfl) _) (fun x hx e => hS2.apart ho2 (by rw [hx, e])), (hf2.mono (fun x _ f => f.elim)).trans ((((Fr.refl (fun x => x = sb) w2).setCell (p := ⟨sb, 2, none⟩) (.inl rfl) _).setCell (p := ⟨sb, 5, none⟩) (.inl rfl) _).setCell (p := ⟨sb, 4, none⟩) (.inl rfl) _) (fun x h => .inl h)⟩

end Go.Proofs.Ytdemhnkkohnflaa.StM32