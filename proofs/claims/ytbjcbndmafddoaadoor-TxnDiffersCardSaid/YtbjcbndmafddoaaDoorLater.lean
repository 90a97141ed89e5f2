/-
  A region that draws its order, whose operations are values (numbers, strings, loads of old cells) and whose calls leave 'Below': walked once, in the order of the text. No program in sight.
-/
import Derived.Test.YtbjcbndmafddoaaDoorSpec
import Derived.WalkKit
import Derived.Deep.QuietTactic
import Derived.BigQuiet
import Derived.Below
namespace Go.Proofs.YtbjcbndmafddoaaDoor
open Go.RowKit

/-- A world that is the given one but for new blocks and draws. -/
structure Lat (w0 : World) where
  w : World
  h : Below w0.heap.size w0 w
instance (w0 : World) : Nonempty (Lat w0) := ⟨⟨w0, Below.refl _ _⟩⟩

theorem below_drawn {w0 : World} (n : Nat) : Below w0.heap.size w0 { w0 with drawn := n } := ⟨rfl, rfl, rfl, Nat.le_refl _, fun _ _ => rfl⟩
theorem lat_iff {w0 w' : World} : (∃ p : Lat w0, w' = p.w) ↔ Below w0.heap.size w0 w' := ⟨fun ⟨p, h⟩ => h ▸ p.h, fun h => ⟨⟨w', h⟩, rfl⟩⟩

/-- The region, in the order of the text; behind it the world is a later one. -/
theorem wp_region_lat {P : Program} {id : Nat} {Q : Exit → Act → World → Prop} {a : Act} {w : World} {l : List Oper} (hm : P.follows .mixedOrders = true) (hB : Region.lexB .any l.toArray = true)
    (h : wpQuiet P l.toArray (fun w' => ∃ p : Lat w, w' = p.w) (fun a' => ∀ w', Below w.heap.size w w' → Q .normal a' w') l a) : (Code.region id l.toArray true).wp P Q a w := by
  refine wp_region_quiet (C := fun w' => ∃ p : Lat w, w' = p.w) hm hB (lat_iff.2 (below_drawn _)) ?_
  have e : (fun a' => ∀ w', Below w.heap.size w w' → Q .normal a' w') = (fun a' => ∀ w', (∃ p : Lat w, w' = p.w) → Q .normal a' w') := by
    funext a'
    refine propext ⟨fun h w' hw => h w' (lat_iff.1 hw), fun h w' hw => h w' (lat_iff.2 hw)⟩
  rw [← e]
  simpa using h

/-- A callee's contract that ends in 'Below', met in a later world. -/
theorem lat_call {P : Program} {f : FuncId} {args : Array Value} {w0 : World} {p : Lat w0} {v : Value} (h : Calls P f args p.w fun e w' => e = .returned v ∧ Below p.w.heap.size p.w w') :
    Calls P f args p.w fun e w'' => e = .returned v ∧ ∃ q : Lat w0, w'' = q.w :=
  h.mono fun _ _ ⟨he, hb⟩ => ⟨he, ⟨_, p.h.trans (hb.mono p.h.size)⟩, rfl⟩
/-- .. that leaves the world as it was. -/
theorem lat_same {P : Program} {f : FuncId} {args : Array Value} {w0 : World} {p : Lat w0} {v : Value} (h : Calls P f args p.w fun e w' => e = .returned v ∧ p.w = w') :
    Calls P f args p.w fun e w'' => e = .returned v ∧ ∃ q : Lat w0, w'' = q.w :=
  h.mono fun _ _ ⟨he, hb⟩ => ⟨he, p, hb.symm⟩
/-- .. that draws. -/
theorem lat_drew {P : Program} {f : FuncId} {args : Array Value} {w0 : World} {p : Lat w0} {v : Value} (h : Calls P f args p.w fun e w' => e = .returned v ∧ ∃ n, w' = p.w.drewN n) :
    Calls P f args p.w fun e w'' => e = .returned v ∧ ∃ q : Lat w0, w'' = q.w :=
  h.mono fun _ _ ⟨he, n, hb⟩ => ⟨he, ⟨p.w.drewN n, ⟨p.h.os, p.h.tape, p.h.output, p.h.size, p.h.block⟩⟩, hb⟩

end Go.Proofs.YtbjcbndmafddoaaDoor
