/- Streams of [4]uint64 in a law's walk: Live, Sep. -/
import Derived.Test.YtcbbllfgelnpjaaWriteSip
namespace Go.Proofs.Ytcbbllfgelnpjaa.StSip
set_option linter.unusedVariables false
set_option linter.unusedSimpArgs false
open Go.RowKit

/-- In w lies a stream, newer than w0; what was there in w0 is as it was. -/
structure Live (w0 w : World) (sb size : Nat) (f s : ST) (q : Nat) (tl : Bytes) (lo : BitVec 64) (tv : Value) : Prop where
  st : StreamAt w sb size f s q tv lo
  ow : Owns w w0.heap.size tv tl
  ge : w0.heap.size ≤ sb
  fr : Fr No w0 w
theorem own_lt {w : World} {base : Nat} {v : Value} {l : Bytes} (h : Owns w base v l) {x : Nat} (hx : v.ownBlock = some x) : x < w.heap.size := by
  obtain ⟨a, c, rfl, _, hb⟩ := h.bytes
  cases a with
  | none => simp [Value.ownBlock] at hx
  | some y => simp [Value.ownBlock] at hx; have := (hb y rfl).2; omega
section
variable {w0 w w' : World} {sb size : Nat} {f s : ST} {q : Nat} {tl : Bytes} {lo : BitVec 64} {tv : Value}
theorem Live.lt (h : Live w0 w sb size f s q tl lo tv) : ∀ x, Foot sb tv x → x < w.heap.size := fun x hx => by
  rcases hx with rfl | hx
  · exact h.st.lt
  · exact own_lt h.ow hx
theorem Live.above (h : Live w0 w sb size f s q tl lo tv) : ∀ x, Foot sb tv x → w0.heap.size ≤ x := fun x hx => by
  rcases hx with rfl | hx
  · exact h.ge
  · exact own_ge h.ow hx
theorem Live.keep {F : Nat → Prop} (h : Live w0 w sb size f s q tl lo tv) (k : Fr F w w') (hF : ∀ x, F x → ¬ Foot sb tv x) (hA : ∀ x, F x → w0.heap.size ≤ x) : Live w0 w' sb size f s q tl lo tv :=
  ⟨h.st.fr k (fun g => hF _ g (.inl rfl)), h.ow.fr k (fun x hx g => hF x g (.inr hx)), h.ge, h.fr.trans k (fun x hx => .inr (hA x hx))⟩
theorem Live.no (h : Live w0 w sb size f s q tl lo tv) (k : Fr No w w') : Live w0 w' sb size f s q tl lo tv := h.keep k (fun _ g => g.elim) (fun _ g => g.elim)
theorem Live.drew (h : Live w0 w sb size f s q tl lo tv) : Live w0 w.drew sb size f s q tl lo tv := h.no (Fr.refl No w).drew
/-- They share no memory. -/
def Sep (sb : Nat) (tv : Value) (sb' : Nat) (tv' : Value) : Prop := ∀ x, Foot sb tv x → ¬ Foot sb' tv' x
theorem Sep.symm {sb sb' : Nat} {tv tv' : Value} (h : Sep sb tv sb' tv') : Sep sb' tv' sb tv := fun x h1 h2 => h x h2 h1
/-- What a write leaves of a stream. -/
def LiveWrote (w0 : World) (sb size : Nat) (f : ST) (q : Nat) (tv : Value) (r : ST × Bytes) (lo : BitVec 64) (w : World) (e : Ending) (w' : World) : Prop :=
  e = .returned (.tuple #[]) ∧ ∃ tv', Live w0 w' sb size f r.1 q r.2 lo tv' ∧ Fr (Foot sb tv) w w' ∧ (tv'.ownBlock = tv.ownBlock ∨ ∀ x, tv'.ownBlock = some x → w.heap.size ≤ x)
theorem Live.sep {sb' : Nat} {tv2 tv' : Value} {size' : Nat} {f' s' : ST} {q' : Nat} {tl' : Bytes} {lo' : BitVec 64} (h : Live w0 w sb' size' f' s' q' tl' lo' tv') (hs : Sep sb tv sb' tv')
    (k : tv2.ownBlock = tv.ownBlock ∨ ∀ x, tv2.ownBlock = some x → w.heap.size ≤ x) : Sep sb tv2 sb' tv' := fun x h1 h2 => by
  rcases h1 with rfl | h1
  · exact hs _ (.inl rfl) h2
  · rcases k with e | e
    · exact hs x (.inr (by rw [← e]; exact h1)) h2
    · have := e x h1; have := h.lt x h2; omega
theorem live_write (E : World → Prop) (G : ST → Bytes → ST) (h : Live w0 w sb size f s q tl lo tv) (hkeep : ∀ w', Fr (Foot sb tv) w w' → E w') (hstep : Hid (Steps E G size q)) (hz1 : 1 ≤ size) (hz2 : size ≤ 64) (htl : tl.length < size)
    (a : Option Addr) (n c : Nat) (l : Bytes) (hb : IsBytes w a n c l) (hap : Apart (Foot sb tv) a n) (hn : n ≤ 1099511627776) :
    Calls Try.prog 34 #[.pointer (some ⟨sb, 0, none⟩), .slice a n c] w (LiveWrote w0 sb size f q tv (foldF G size s (tl ++ l)) (lo + BitVec.ofNat 64 n) w) := by
  refine (Write_any E G ⟨h.st, h.ow, h.fr.size⟩ hkeep hstep hz1 hz2 htl a n c l hb hap hn).mono ?_
  rintro e w' ⟨rfl, tv', hst, hown, hnew, hfr⟩
  exact ⟨rfl, tv', ⟨hst, hown, h.ge, h.fr.trans hfr (fun x hx => .inr (h.above x hx))⟩, hfr, hnew⟩
end

end Go.Proofs.Ytcbbllfgelnpjaa.StSip