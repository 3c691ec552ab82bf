/- block.Stream[[4]uint64].Write, whole. -/
import Derived.Test.YtcbbllfgelnpjaaRestSip
import Derived.Test.YtcbbllfgelnpjaaWriteASip
import Derived.Test.YtcbbllfgelnpjaaWriteBSip
import Derived.Test.YtcbbllfgelnpjaaWriteCSip
namespace Go.Proofs.Ytcbbllfgelnpjaa.StSip
set_option linter.unusedVariables false
set_option linter.unusedSimpArgs false
open Go.RowKit

/-- In block sb lies a stream that waits with tl; its tail lies at base or above. -/
def Str (w : World) (base sb : Nat) (size : Nat) (f s : ST) (q : Nat) (tl : Bytes) (lo : BitVec 64) (tv : Value) : Prop :=
  StreamAt w sb size f s q tv lo ∧ Owns w base tv tl ∧ base ≤ w.heap.size
theorem Write_any {w : World} {base sb size : Nat} {f s : ST} {q : Nat} {tl : Bytes} {lo : BitVec 64} {tv : Value} (E : World → Prop) (G : ST → Bytes → ST) (hS : Str w base sb size f s q tl lo tv)
    (hkeep : ∀ w', Fr (Foot sb tv) w w' → E w') (hstep : Hid (Steps E G size q)) (hz1 : 1 ≤ size) (hz2 : size ≤ 64) (htl : tl.length < size) (a : Option Addr) (n c : Nat) (l : Bytes) (h : IsBytes w a n c l) (hap : Apart (Foot sb tv) a n) (hn : n ≤ 1099511627776) :
    Calls Try.prog 34 #[.pointer (some ⟨sb, 0, none⟩), .slice a n c] w (Wrote base sb size f q tv (foldF G size s (tl ++ l)) (lo + BitVec.ofNat 64 n) w) := by
  obtain ⟨hst, ho, hb⟩ := hS
  obtain ⟨ta, tc, rfl, hbt, _⟩ := ho.bytes
  have hE := hkeep w (Fr.refl _ w)
  obtain ⟨k, hk⟩ : ∃ k, tl.length = k := ⟨_, rfl⟩
  rw [hk] at hst ho hkeep htl hap ⊢
  rcases Nat.eq_zero_or_pos k with e | hpos
  · subst e
    obtain rfl : tl = [] := List.eq_nil_of_length_eq_zero hk
    exact Write_empty E base sb size f s q ta tc lo a n c l w G hE hkeep hstep hst ho hb hz1 hz2 h hap hn
  · by_cases hp : k + n < size
    · have := Write_part E base sb size f s q ta k tc tl lo a n c l w G hE hkeep hstep hst ho hb hz1 hz2 hk hpos htl h hap hn hp
      rwa [← foldF_short (F := G) (s := s) (size := size) (l := tl ++ l) (by rw [List.length_append, hk, h.1]; exact hp)] at this
    · exact Write_fill E base sb size f s q ta k tc tl lo a n c l w G hE hkeep hstep hst ho hb hz1 hz2 hk hpos htl h hap hn (by omega) _ rfl

end Go.Proofs.Ytcbbllfgelnpjaa.StSip