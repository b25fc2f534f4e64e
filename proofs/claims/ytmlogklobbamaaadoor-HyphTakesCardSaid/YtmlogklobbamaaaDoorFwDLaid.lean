/-
A table among the package variables that lie there when a call begins.
-/
import Derived.Test.YtmlogklobbamaaaDoorFwDPrim
import Derived.Lib.LaidTab
import Derived.LaidMore
namespace Go.D
open Go.RowKit

variable {P : Program}

theorem laid_mem {w : World} : ∀ (l : List (String × DataW Unit)) (ps : List MemPlace), DataW.LaidVars P w l ps → ∀ x ∈ l, ∃ g t cs fuel p, P.globalNamed x.1 = some g ∧ (P.globals[g]?).map (·.type) = some t ∧ w.var? P x.1 = some cs ∧
    DataW.trod (fun _ => ()) P w 0 (fun _ => true) false fuel t cs.toList = some (x.2, p)
  | [], _, _, x, hx => by simp at hx
  | y :: l, ps, h, x, hx => by
    obtain ⟨g, t, cs, fuel, p, q, h1, h2, h3, h4, h5, h6⟩ := h
    rcases List.mem_cons.1 hx with rfl | hx
    · exact ⟨g, t, cs, fuel, p, h1, h2, h3, h4⟩
    · exact laid_mem l _ h5 x hx

/-- A table of bytes that is listed lies in the world. -/
theorem envIn_laid {l : List (Nat × FuncId)} {laid : List (String × DataW Unit)} {w : World} {name : String} {tab : List Nat} {g n : Nat} {t e : TypeId} (hg : P.globalNamed name = some g) (hty : (P.globals[g]?).map (·.type) = some t) (ht : P.underlying t = some (.array n e))
    (he : P.underlying e = some (.int .u8)) (hce : P.cellsOf e = 1) (hct : P.cellsOf t = n) (hx : (name, Lib.tabData .u8 (tab.map Int.ofNat)) ∈ laid) (h : laidMet P laid w) : EnvIn (fmOf l [(g, tab)]) w := by
  obtain ⟨ps, h1, _⟩ := h
  obtain ⟨g', t', cs, fuel, p, hg', ht', hvar, hd⟩ := laid_mem laid ps h1 _ hx
  obtain rfl := Option.some.inj (hg.symm.trans hg')
  obtain rfl := Option.some.inj (hty.symm.trans ht')
  have hcs := Lib.cells_of_tab ht he hce hct hd
  refine envIn_one fun i hi => ?_
  rw [World.var?_cell hg hvar i, ← Array.getElem?_toList, hcs]
  simp [hi]

end Go.D
