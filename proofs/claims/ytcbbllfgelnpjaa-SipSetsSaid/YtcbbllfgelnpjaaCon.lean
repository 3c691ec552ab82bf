/- Blocks that no write of a stream touches: told by their types. -/
import Derived.Test.YtcbbllfgelnpjaaMem
namespace Go.Proofs.Ytcbbllfgelnpjaa
set_option linter.unusedVariables false
set_option linter.unusedSimpArgs false
open Go.RowKit

/-- The types of what a stream writes to. -/
def wrT : List TypeId := [5
  , 78
  ]
/-- A block of no such type. -/
def Con (o : Obj) : Prop := ∃ cs T, o = .cells cs T (0, 0) ∧ wrT.contains T = false
/-- No such block lies among F. -/
def Keeps (w : World) (F : Nat → Prop) : Prop := ∀ x o, w.heap[x]? = some o → Con o → ¬ F x
theorem Keeps.sub {w : World} {F G : Nat → Prop} (h : Keeps w F) (hG : ∀ x, G x → F x) : Keeps w G := fun x o ho hc g => h x o ho hc (hG x g)
theorem Keeps.no (w : World) : Keeps w No := fun _ _ _ _ g => g.elim
theorem Keeps.fr {w w' : World} {F : Nat → Prop} (h : Keeps w F) (k : Fr F w w') {x : Nat} {o : Obj} (ho : w.heap[x]? = some o) (hc : Con o) : w'.heap[x]? = some o := k.heap (h x o ho hc) ho
theorem Keeps.own {w : World} {base : Nat} {v : Value} {l : Bytes} (h : Owns w base v l) : Keeps w (fun x => v.ownBlock = some x) := fun x o ho hc g => by
  rcases h.2 with ⟨rfl, _⟩ | ⟨b, cap, cur, rfl, _, hg, _⟩
  · simp [Value.ownBlock] at g
  · simp [Value.ownBlock] at g
    subst g
    rw [hg] at ho
    obtain ⟨cs, T, e, hT⟩ := hc
    rw [e] at ho
    simp at ho
    rw [← ho.2] at hT
    exact absurd hT (by decide)
end Go.Proofs.Ytcbbllfgelnpjaa
