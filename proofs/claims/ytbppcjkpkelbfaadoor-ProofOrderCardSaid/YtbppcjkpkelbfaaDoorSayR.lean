/-
  Contracts of given functions, or plain laws that they need. No condition.
-/
import Derived.Test.YtbppcjkpkelbfaaDoorRowK
namespace Go.Eng
open Go Go.RowKit
set_option linter.unusedVariables false
theorem says_rename {C : Cx} {s s' : St} {m : Nat → Option Nat} (hr : Renamed s s' m) (ht : s'.tmps = s.tmps.map (AV.rn m)) : Says C s s' := ⟨fun E a w hs => by
  obtain ⟨h1, h2, h3⟩ := hs.fit.renamed hr
  refine ⟨E.rn m, h1, ?_, hs.df⟩
  rw [ht]
  exact VAs.map (AV.rn m) hs.tm h3⟩
theorem says_rowTo {C : Cx} {s : St} {k T sz n : Nat} {el : Nat → D} (hk : s.th k = some (.row T sz n el)) (n' : Nat) (el' : Nat → D) (hn : n = n') (he : ∀ i, i < n → el i = el' i) : Says C s (s.setTh k (.row T sz n' el')) := by
  subst hn; exact Says.rowEq hk el' he
theorem Spec.mono {P : Program} {gl gl' : Nat → Option (List D)} (hg : ∀ g cs, gl g = some cs → gl' g = some cs) {g : FuncId} {args : List AV} {H : List (Nat × Th)} {ret : AV} {H' : List (Nat × Th)} (h : Eng.Spec P gl g args H ret H') : Eng.Spec P gl' g args H ret H' := by
  intro w N E vs hf hv
  refine (h w N E vs ⟨hf.base, hf.low, hf.keep, hf.keys, hf.th, hf.dis, fun g cs h => hf.gl g cs (hg g cs h)⟩ hv).mono ?_
  rintro e w' ⟨v, E', rfl, h1, h2⟩
  exact ⟨v, E', rfl, ⟨h1.base, h1.low, h1.keep, h1.keys, h1.th, h1.dis, hf.gl⟩, h2⟩
end Go.Eng
