/-
The small language's runs are the model's.
-/
import Derived.Test.YtpmjmbpcdacamaaFwDDraw2
namespace Go.D
open Go.RowKit

variable {P : Program} {fm : FM} {T : Tab}

theorem good_zero : Good P fm T 0 where
  code := fun {rc} {_} {_} {_} {_} {_} {_} {_} {_} {_} {_} {_} {_} {_} _ h => by cases rc <;> simp [runC] at h
  one := fun {_} {_} {_} {_} {_} {_} {_} {_} {_} {_} {_} {_} {_} {_} {_} _ h => by simp [runOne] at h
  fn := fun {_} {_} {_} {_} {_} {_} {_} {_} {_} {_} _ h => by simp [callF] at h
  val := fun {_} {_} {_} {_} {_} {_} {_} {_} {_} {_} _ h => by simp [callV] at h

theorem good_all (hT : TabRel P fm T) (hm : P.follows .mixedOrders = true) (n : Nat) : Good P fm T n := by
  induction n using Nat.strongRecOn with
  | _ n ih =>
    cases n with
    | zero => exact good_zero
    | succ n =>
      have hall : ∀ m, m ≤ n → Good P fm T m := fun m h => ih m (by omega)
      have hn := hall n (Nat.le_refl n)
      exact {
        code := fun h1 h2 h3 h4 h5 h6 h7 h8 => code_succ n hall (draw_ok hm n hall) h1 h2 h3 h4 h5 h6 h7 h8
        one := fun h1 h2 h3 h4 h5 => one_succ n hn h1 h2 h3 h4 h5
        fn := fun h1 h2 h3 h4 => fn_succ n hn hT h1 h2 h3 h4
        val := fun h1 h2 h3 h4 => val_succ n hn h1 h2 h3 h4 }

/-- A call of the small language, and the call of the model's that it stands for. -/
theorem calls_of_callF (hT : TabRel P fm T) (hm : P.follows .mixedOrders = true) {n g : Nat} {f : FuncId} {args : List DV} {st : St} {v : DV} {st' : St} {G : Gh} {w0 w : World} {args' : Array Value}
    (hf : fm g = some f) (hrun : callF T n g args st = some (v, st')) (hs : SimT P fm T G w0 st w) (ha : RelsA fm G args args') (hcode : isCode T g = true) (henter : ∀ (args : Array Value) (w : World), (callFunc f args).run P w = .ok (.enter f args) w) :
    Calls P f args' w (fun e w' => ∃ x, e = .returned x ∧ ∃ G', G.le G' ∧ SimT P fm T G' w0 st' w' ∧ Rel fm G' v x) := by
  obtain ⟨f', h1, h2⟩ := ((good_all hT hm n).fn hf hrun hs ha).2 hcode
  rw [henter] at h1
  cases h1
  exact callsIn_wide.1 h2

end Go.D
