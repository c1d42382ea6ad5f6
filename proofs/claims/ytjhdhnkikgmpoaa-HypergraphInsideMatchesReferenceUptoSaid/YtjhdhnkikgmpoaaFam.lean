/- A region that draws its order, whose own operations only read and whose calls may make memory: one walk in the order of the text, in every world of a family that contains the world at hand and is kept by each call. -/
import Derived.WalkKit
import Derived.Deep.QuietTactic
import Derived.BigQuiet
namespace Go.Proofs.Ytjhdhnkikgmpoaa
open Go.RowKit

theorem wp_region_fam {P : Program} {S : Type} {f : S → World} {id : Nat} {Q : Exit → Act → World → Prop} {a : Act} {w : World} {l : List Oper} (hm : P.follows .mixedOrders = true) (hB : Region.lexB .any l.toArray = true)
    (h0 : ∃ s, w.drew = f s)
    (h : wpQuiet P l.toArray (fun w' => ∃ s, w' = f s) (fun a' => ∀ w', (∃ s, w' = f s) → Q .normal a' w') l a) : (Code.region id l.toArray true).wp P Q a w :=
  wp_region_quiet (C := fun w' => ∃ s, w' = f s) hm hB h0 (by simpa using h)

/-- The family of all worlds that are below B as w is. -/
theorem fam_of (B : Nat) (w : World) : ∃ (S : Type) (_ : Nonempty S) (f : S → World), (∀ s, Below B w (f s)) ∧ (∀ w', Below B w w' → ∃ s, w' = f s) :=
  ⟨{w' : World // Below B w w'}, ⟨⟨w, Below.refl _ _⟩⟩, Subtype.val, fun s => s.2, fun w' h => ⟨⟨w', h⟩, rfl⟩⟩

/-- A contract that makes memory at most, met in a world of the family. -/
theorem quiet_fam {P : Program} {S : Type} {f : S → World} {B : Nat} {w : World} {g : FuncId} {args : Array Value} {v : Value} (hB : B ≤ w.heap.size) (hf : ∀ s, Below B w (f s)) (hs : ∀ w', Below B w w' → ∃ s, w' = f s) {s : S}
    (h : Calls P g args (f s) fun e w' => e = .returned v ∧ Below (f s).heap.size (f s) w') : Calls P g args (f s) fun e w'' => e = .returned v ∧ ∃ s', w'' = f s' :=
  h.mono fun _ w' ⟨he, hb⟩ => ⟨he, hs w' ((hf s).trans (hb.mono (Nat.le_trans hB (hf s).size)))⟩
theorem quiet_fam_same {P : Program} {S : Type} {f : S → World} {g : FuncId} {args : Array Value} {v : Value} {s : S}
    (h : Calls P g args (f s) fun e w' => e = .returned v ∧ f s = w') : Calls P g args (f s) fun e w'' => e = .returned v ∧ ∃ s', w'' = f s' :=
  h.mono fun _ _ ⟨he, hb⟩ => ⟨he, s, hb.symm⟩
end Go.Proofs.Ytjhdhnkikgmpoaa
