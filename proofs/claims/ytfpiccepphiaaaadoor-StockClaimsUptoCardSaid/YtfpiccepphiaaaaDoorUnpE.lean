/-
  Contracts of given functions, or plain laws that they need. No condition.
-/
import Derived.Test.YtfpiccepphiaaaaDoorUnpV
namespace Go.Nest
open Go Go.Eng Go.Proofs Go.RowKit
set_option linter.unusedVariables false
set_option linter.all false
theorem unpack_ok (m : Int) (e1 e2 : Value) (h1 : ErrV e1) (h2 : ErrV e2) (s : ByteArray) (hs : s.size ≤ 1073741824) : Eng.Spec Tryd.prog (glU m e1 e2) 25 [.d (.raw (.string s))] [] (.tup [.d (.list 1 (unpR s).1.length (strEl (unpR s).1)), .d (.raw (.int .i64 (unpR s).2))]) [] := by
  refine Spec.pureG fun w N E vs hg hvs hN => ?_
  rw [VAs_cons] at hvs
  obtain ⟨v, us, rfl, hv, hus⟩ := hvs
  obtain rfl : us = [] := by unfold VAs at hus; exact hus
  unfold VA at hv
  obtain rfl := (VD_raw_inv hv).1
  have hG : GlIn (glU m e1 e2) w := fun g cs h => by
    obtain ⟨h3, us, h4, h5, h6⟩ := hg g cs h
    exact ⟨hN g h3, us, VCs.imp (fun b hb => hN b hb) (fun a v ha hc => hc) _ _ h4, h5, h6⟩
  refine (unpack_walk h1 h2 s hs w hG).mono ?_
  rintro e W' ⟨hb, ⟨xs, v, hx, rfl, hrow⟩ | ⟨hx, rfl⟩⟩
  · have e : unpR s = (xs, 0) := by unfold unpR; rw [hx]
    rw [e]
    refine ⟨_, rfl, hb, ?_⟩
    unfold VA
    refine ⟨[_, _], rfl, vas_cons ?_ (vas_cons (VD_raw rfl) vas_nil)⟩
    unfold VD VC
    refine ⟨v, rfl, ?_⟩
    rcases hrow.2 with ⟨rfl, hn⟩ | ⟨g, cap, cur, rfl, hbg, hgb, hrest⟩
    · exact .inl ⟨hn, rfl⟩
    · refine .inr ⟨⟨g, 0, none⟩, cap, xs.map Value.string, rfl, ?_, ?_, rfl, ⟨(Array.getElem?_eq_some_iff.1 hgb).1, .inr hbg⟩, by simp, fun j u hu => ?_, fun i hi => ?_⟩
      · exact hrest.1
      · exact hrest.2.1
      · rw [addr_mk_add, Nat.zero_add]
        have h3 := hrest.2.2.2
        rw [← h3, List.getElem?_take] at hu
        split at hu
        · unfold World.cell?
          rw [hgb]
          simpa using hu
        · cases hu
      · have hi : i < xs.length := hi
        have e1 : List.take 1 (List.drop (i * 1) (xs.map Value.string)) = [.string (xs.getD i ByteArray.empty)] := by
          rw [Nat.mul_one, List.drop_eq_getElem_cons (by simpa using hi)]
          simp [List.getD, hi]
        rw [e1]
        unfold strEl VC
        exact ⟨rfl, rfl⟩
  · have e : unpR s = ([], 4) := by unfold unpR; rw [hx]
    rw [e]
    refine ⟨_, rfl, hb, ?_⟩
    unfold VA
    refine ⟨[_, _], rfl, vas_cons ?_ (vas_cons (VD_raw rfl) vas_nil)⟩
    unfold VD VC
    exact ⟨_, rfl, .inl ⟨rfl, rfl⟩⟩
end Go.Nest
