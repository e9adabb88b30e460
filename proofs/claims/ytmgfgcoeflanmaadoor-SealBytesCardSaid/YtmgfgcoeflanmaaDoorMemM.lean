/-
  Contracts of given functions, or plain laws that they need. No condition.
-/
import Derived.Test.YtmgfgcoeflanmaaDoorOrdB
import Derived.Test.YtmgfgcoeflanmaaDoorUnpG
namespace Go.Memo
open Go Go.Eng Go.Nest
set_option linter.unusedVariables false
/-- Parties and their names. -/
def isM (g n : Int) : Bool := decide (-1 ≤ g ∧ g ≤ 4 ∧ 0 ≤ n ∧ n ≤ 15)
def nameM (g n : Int) : ByteArray × Int := if isM g n = true then (packB [numJ g, numJ n], 0) else (ByteArray.empty, 1)
def at' (r : List ByteArray) (i : Nat) : ByteArray := r.getD i ByteArray.empty
def partyM (s : ByteArray) : Int × Int × Int :=
  if (unpR s).2 = 0 ∧ (unpR s).1.length = 2 ∧ (numM (at' (unpR s).1 0)).2 = 0 ∧ (numM (at' (unpR s).1 1)).2 = 0 ∧ isM (numM (at' (unpR s).1 0)).1 (numM (at' (unpR s).1 1)).1 = true
  then ((numM (at' (unpR s).1 0)).1, (numM (at' (unpR s).1 1)).1, 0) else (0, 0, 4)
/-- Of a kind: the least View, the least Number, is there a text, a tag. -/
def flM (k : Int) : Int × Int × Bool × Bool :=
  if k = 1 ∨ k = 7 then (-1, -1, true, false)
  else if k = 2 ∨ k = 3 then (0, 1, true, true)
  else if k = 4 then (-1, 1, true, true)
  else if k = 5 then (1, -1, true, true)
  else if k = 6 then (1, -1, true, false)
  else if k = 8 then (0, 0, false, true)
  else if k = 9 then (0, 1, true, true)
  else if k = 10 ∨ k = 11 then (-1, -1, true, true)
  else (-1, 0, false, false)
def witM (n least : Int) : Bool := if least < 0 then decide (n = 0) else decide (least ≤ n ∧ n ≤ 1099511627776)
structure Mm where
  k : Int
  g : Int
  n : Int
  v : Int
  u : Int
  t : ByteArray
  tag : ByteArray
def rightM (m : Mm) : Int :=
  if ¬ (1 ≤ m.k ∧ m.k ≤ 12) then 1
  else if isM m.g m.n = false ∨ m.g = -1 ∧ m.k ≠ 1 ∧ m.k ≠ 12 then 1
  else if witM m.v (flM m.k).1 = false ∨ witM m.u (flM m.k).2.1 = false ∨ (flM m.k).2.2.1 = false ∧ m.t.size ≠ 0 ∨ 524288 < m.t.size then 4 else 0
def chkM (m : Mm) : Int := if rightM m = 0 ∧ ((flM m.k).2.2.2 = true ∧ m.tag.size ≠ 16 ∨ (flM m.k).2.2.2 = false ∧ m.tag.size ≠ 0) then 4 else rightM m
def encM (m : Mm) : ByteArray × Int := if chkM m = 0 then (packB [numJ m.k, (nameM m.g m.n).1, numJ m.v, numJ m.u, m.t, m.tag], 0) else (ByteArray.empty, chkM m)
def noMm : Mm := ⟨0, 0, 0, 0, 0, ByteArray.empty, ByteArray.empty⟩
def readM (r : List ByteArray) : Mm := ⟨(numM (at' r 0)).1, (partyM (at' r 1)).1, (partyM (at' r 1)).2.1, (numM (at' r 2)).1, (numM (at' r 3)).1, at' r 4, at' r 5⟩
def decM (s : ByteArray) : Mm × Int := if (unpR s).2 = 0 ∧ (unpR s).1.length = 6 ∧ encM (readM (unpR s).1) = (s, 0) then (readM (unpR s).1, 0) else (noMm, 4)
/-- Sizes. -/
theorem itoa_len (v : Int) (h : -9223372036854775808 ≤ v ∧ v ≤ 9223372036854775808) : (numJ v).size ≤ 20 := by
  have := dec_len19 v h
  rw [size_ba]
  show (Lib.itoa v).length ≤ 20
  unfold Lib.itoa
  split
  · simp only [List.length_cons]; omega
  · rw [show v.toNat = v.natAbs by omega]; omega
theorem dec_len7 (x : Nat) (h : x < 10000000) : (Lib.decDigits x).length ≤ 7 := dec_len9 7 x (by omega) (by decide)
theorem pack_len1 (x : ByteArray) (xs : List ByteArray) (h : x.size < 10000000) : (packL (x :: xs)).length ≤ x.size + 9 + (packL xs).length := by
  have := dec_len7 x.size h
  simp only [packL, List.length_append, List.length_cons, List.length_nil]
  rw [← size_ba]; omega
theorem packB_size (xs : List ByteArray) : (packB xs).size = (packL xs).length := by rw [size_ba]; rfl
theorem name_size (g n : Int) (hg : -1 ≤ g ∧ g ≤ 4 ∧ 0 ≤ n ∧ n ≤ 15) : (packB [numJ g, numJ n]).size ≤ 60 := by
  have h1 := itoa_len g (by omega)
  have h2 := itoa_len n (by omega)
  have h3 := pack_len1 (numJ g) [numJ n] (by omega)
  have h4 := pack_len1 (numJ n) [] (by omega)
  rw [packB_size]
  have : (packL []).length = 0 := rfl
  omega
/-- What is told by numbers is told back. -/
theorem num_numJ {v : Int} (h : -9223372036854775808 ≤ v ∧ v < 9223372036854775808) : numM (numJ v) = (v, 0) := numM_itoa h rfl
theorem numM_ok {s : ByteArray} (h : (numM s).2 = 0) : s = numJ (numM s).1 := by
  rcases numM_cases s with h2 | ⟨v, h2, h3⟩
  · rw [h2] at h; cases h
  · rw [h2]; apply ext_ba; exact h3.symm
theorem numM_bad {s : ByteArray} (h : (numM s).2 ≠ 0) : numM s = (0, 4) := by
  rcases numM_cases s with h2 | ⟨v, h2, h3⟩
  · exact h2
  · rw [h2] at h; exact absurd rfl h
theorem pack_inj {xs ys : List ByteArray} (h : packB xs = packB ys) (h1 : ∀ x ∈ xs, x.size < 1000000000) (h2 : ∀ x ∈ ys, x.size < 1000000000) : xs = ys := by
  have e1 := unpR_pack xs h1
  have e2 := unpR_pack ys h2
  rw [h, e2] at e1
  exact (congrArg Prod.fst e1).symm
theorem unp_mem {s : ByteArray} (h : (unpR s).2 = 0) : ∀ x ∈ (unpR s).1, x.size ≤ s.size := by
  intro x hx
  have e := unpR_inv h
  have e2 : s.size = (packL (unpR s).1).length := (congrArg ByteArray.size e).trans (packB_size _)
  obtain ⟨a, b, hab⟩ := List.append_of_mem hx
  rw [hab, packL_append, List.length_append] at e2
  simp only [packL, List.length_append, List.length_cons, List.length_nil] at e2
  rw [← size_ba] at e2
  omega
theorem party_name {g n : Int} (h : isM g n = true) : partyM (nameM g n).1 = (g, n, 0) := by
  have hb : -1 ≤ g ∧ g ≤ 4 ∧ 0 ≤ n ∧ n ≤ 15 := of_decide_eq_true h
  have e : (nameM g n).1 = packB [numJ g, numJ n] := by unfold nameM; rw [if_pos h]
  have h1 := itoa_len g (by omega)
  have h2 := itoa_len n (by omega)
  have eu : unpR (nameM g n).1 = ([numJ g, numJ n], 0) := by
    rw [e]; exact unpR_pack _ (by intro x hx; simp only [List.mem_cons, List.not_mem_nil, or_false] at hx; rcases hx with rfl | rfl <;> omega)
  unfold partyM
  rw [eu]
  have e0 : at' [numJ g, numJ n] 0 = numJ g := rfl
  have e1 : at' [numJ g, numJ n] 1 = numJ n := rfl
  simp only [e0, e1, num_numJ (show -9223372036854775808 ≤ g ∧ g < 9223372036854775808 by omega), num_numJ (show -9223372036854775808 ≤ n ∧ n < 9223372036854775808 by omega)]
  rw [if_pos ⟨trivial, rfl, trivial, trivial, h⟩]
theorem list2 {r : List ByteArray} (h : r.length = 2) : r = [at' r 0, at' r 1] := by
  rcases r with _ | ⟨a, _ | ⟨b, _ | ⟨c, r⟩⟩⟩ <;> simp at h
  rfl
theorem list6 {r : List ByteArray} (h : r.length = 6) : r = [at' r 0, at' r 1, at' r 2, at' r 3, at' r 4, at' r 5] := by
  rcases r with _ | ⟨a, _ | ⟨b, _ | ⟨c, _ | ⟨d, _ | ⟨e, _ | ⟨f, _ | ⟨x, r⟩⟩⟩⟩⟩⟩⟩ <;> simp at h
  rfl
theorem party_cases (s : ByteArray) : partyM s = (0, 0, 4) ∨ ∃ g n, partyM s = (g, n, 0) ∧ isM g n = true ∧ (nameM g n).1 = s := by
  unfold partyM
  split
  · rename_i h
    obtain ⟨h1, h2, h3, h4, h5⟩ := h
    refine .inr ⟨_, _, rfl, h5, ?_⟩
    unfold nameM
    rw [if_pos h5]
    have e := list2 h2
    rw [numM_ok h3, numM_ok h4] at e
    exact (congrArg packB e.symm).trans (unpR_inv h1).symm
  · exact .inl rfl
theorem party_of {s : ByteArray} {g n : Int} (h : isM g n = true) (e : (nameM g n).1 = s) : partyM s = (g, n, 0) := by rw [← e]; exact party_name h
theorem party_none {s : ByteArray} (h : ∀ g n, isM g n = true → (nameM g n).1 ≠ s) : partyM s = (0, 0, 4) := by
  rcases party_cases s with h1 | ⟨g, n, h1, h2, h3⟩
  · exact h1
  · exact absurd h3 (h g n h2)
/-- The reference's row of a kind. -/
def rowM (k : Int) : ByteArray := if k = 1 then ⟨#[45, 45, 116, 46]⟩ else if k = 2 then ⟨#[48, 49, 116, 103]⟩ else if k = 3 then ⟨#[48, 49, 116, 103]⟩ else if k = 4 then ⟨#[45, 49, 116, 103]⟩ else if k = 5 then ⟨#[49, 45, 116, 103]⟩ else if k = 6 then ⟨#[49, 45, 116, 46]⟩ else if k = 7 then ⟨#[45, 45, 116, 46]⟩ else if k = 8 then ⟨#[48, 48, 46, 103]⟩ else if k = 9 then ⟨#[48, 49, 116, 103]⟩ else if k = 10 then ⟨#[45, 45, 116, 103]⟩ else if k = 11 then ⟨#[45, 45, 116, 103]⟩ else if k = 12 then ⟨#[45, 48, 46, 46]⟩ else ⟨#[]⟩
def witR (n c : Int) : Bool := if c = 45 then decide (n = 0) else decide (c - 48 ≤ n ∧ n ≤ 1099511627776)
theorem kinds {k : Int} (h : 1 ≤ k ∧ k ≤ 12) {Q : Int → Prop} (h1 : Q 1) (h2 : Q 2) (h3 : Q 3) (h4 : Q 4) (h5 : Q 5) (h6 : Q 6) (h7 : Q 7) (h8 : Q 8) (h9 : Q 9) (h10 : Q 10) (h11 : Q 11) (h12 : Q 12) : Q k := by
  have : k = 1 ∨ k = 2 ∨ k = 3 ∨ k = 4 ∨ k = 5 ∨ k = 6 ∨ k = 7 ∨ k = 8 ∨ k = 9 ∨ k = 10 ∨ k = 11 ∨ k = 12 := by omega
  rcases this with rfl | rfl | rfl | rfl | rfl | rfl | rfl | rfl | rfl | rfl | rfl | rfl <;> assumption
theorem row_size {k : Int} (h : 1 ≤ k ∧ k ≤ 12) : (rowM k).size = 4 := kinds (Q := fun k => (rowM k).size = 4) h (by decide +kernel) (by decide +kernel) (by decide +kernel) (by decide +kernel) (by decide +kernel) (by decide +kernel) (by decide +kernel) (by decide +kernel) (by decide +kernel) (by decide +kernel) (by decide +kernel) (by decide +kernel)
theorem row_v {k : Int} (h : 1 ≤ k ∧ k ≤ 12) : (byteAt (rowM k) 0 = 45 ∧ (flM k).1 = -1) ∨ (byteAt (rowM k) 0 ≠ 45 ∧ 0 ≤ (flM k).1 ∧ (flM k).1 = byteAt (rowM k) 0 - 48) := kinds (Q := fun k => (byteAt (rowM k) 0 = 45 ∧ (flM k).1 = -1) ∨ (byteAt (rowM k) 0 ≠ 45 ∧ 0 ≤ (flM k).1 ∧ (flM k).1 = byteAt (rowM k) 0 - 48)) h (by decide +kernel) (by decide +kernel) (by decide +kernel) (by decide +kernel) (by decide +kernel) (by decide +kernel) (by decide +kernel) (by decide +kernel) (by decide +kernel) (by decide +kernel) (by decide +kernel) (by decide +kernel)
theorem row_u {k : Int} (h : 1 ≤ k ∧ k ≤ 12) : (byteAt (rowM k) 1 = 45 ∧ (flM k).2.1 = -1) ∨ (byteAt (rowM k) 1 ≠ 45 ∧ 0 ≤ (flM k).2.1 ∧ (flM k).2.1 = byteAt (rowM k) 1 - 48) := kinds (Q := fun k => (byteAt (rowM k) 1 = 45 ∧ (flM k).2.1 = -1) ∨ (byteAt (rowM k) 1 ≠ 45 ∧ 0 ≤ (flM k).2.1 ∧ (flM k).2.1 = byteAt (rowM k) 1 - 48)) h (by decide +kernel) (by decide +kernel) (by decide +kernel) (by decide +kernel) (by decide +kernel) (by decide +kernel) (by decide +kernel) (by decide +kernel) (by decide +kernel) (by decide +kernel) (by decide +kernel) (by decide +kernel)
theorem row_t {k : Int} (h : 1 ≤ k ∧ k ≤ 12) : (byteAt (rowM k) 2 = 46 ∧ (flM k).2.2.1 = false ∨ byteAt (rowM k) 2 ≠ 46 ∧ (flM k).2.2.1 = true) ∧ (byteAt (rowM k) 3 = 46 ∧ (flM k).2.2.2 = false ∨ byteAt (rowM k) 3 = 103 ∧ (flM k).2.2.2 = true) := kinds (Q := fun k => (byteAt (rowM k) 2 = 46 ∧ (flM k).2.2.1 = false ∨ byteAt (rowM k) 2 ≠ 46 ∧ (flM k).2.2.1 = true) ∧ (byteAt (rowM k) 3 = 46 ∧ (flM k).2.2.2 = false ∨ byteAt (rowM k) 3 = 103 ∧ (flM k).2.2.2 = true)) h (by decide +kernel) (by decide +kernel) (by decide +kernel) (by decide +kernel) (by decide +kernel) (by decide +kernel) (by decide +kernel) (by decide +kernel) (by decide +kernel) (by decide +kernel) (by decide +kernel) (by decide +kernel)
theorem wit_v {k : Int} (h : 1 ≤ k ∧ k ≤ 12) (n : Int) : witR n (byteAt (rowM k) 0) = witM n (flM k).1 := by
  unfold witR witM
  rcases row_v h with ⟨h1, h2⟩ | ⟨h1, h2, h3⟩
  · rw [if_pos h1, h2, if_pos (by decide)]
  · rw [if_neg h1, if_neg (by omega), h3]
theorem wit_u {k : Int} (h : 1 ≤ k ∧ k ≤ 12) (n : Int) : witR n (byteAt (rowM k) 1) = witM n (flM k).2.1 := by
  unfold witR witM
  rcases row_u h with ⟨h1, h2⟩ | ⟨h1, h2, h3⟩
  · rw [if_pos h1, h2, if_pos (by decide)]
  · rw [if_neg h1, if_neg (by omega), h3]
/-- The reference's Decode, and ours: the same. -/
def okR (r : List ByteArray) : Prop := (numM (at' r 0)).2 = 0 ∧ (partyM (at' r 1)).2.2 = 0 ∧ (numM (at' r 2)).2 = 0 ∧ (numM (at' r 3)).2 = 0
theorem party_bad {s : ByteArray} (h : (partyM s).2.2 ≠ 0) : partyM s = (0, 0, 4) := by
  rcases party_cases s with h1 | ⟨g, n, h1, h2, h3⟩
  · exact h1
  · rw [h1] at h; exact absurd rfl h
theorem party_is {s : ByteArray} (h : (partyM s).2.2 = 0) : isM (partyM s).1 (partyM s).2.1 = true ∧ (nameM (partyM s).1 (partyM s).2.1).1 = s := by
  rcases party_cases s with h1 | ⟨g, n, h1, h2, h3⟩
  · rw [h1] at h; cases h
  · rw [h1]; exact ⟨h2, h3⟩
theorem right_of {m : Mm} (h : chkM m = 0) : rightM m = 0 := by
  unfold chkM at h
  split at h
  · cases h
  · exact h
theorem right_in {m : Mm} (h : rightM m = 0) : (1 ≤ m.k ∧ m.k ≤ 12) ∧ isM m.g m.n = true ∧ witM m.v (flM m.k).1 = true ∧ witM m.u (flM m.k).2.1 = true ∧ m.t.size ≤ 524288 := by
  unfold rightM at h
  split at h
  · cases h
  · rename_i h1
    split at h
    · cases h
    · rename_i h2
      split at h
      · cases h
      · rename_i h3
        simp only [not_or, Bool.not_eq_false] at h2 h3
        exact ⟨by simpa using h1, h2.1, h3.1, h3.2.1, by omega⟩
theorem wit_in {n l : Int} (h : witM n l = true) (hl : -1 ≤ l) : 0 ≤ n ∧ n ≤ 1099511627776 := by
  unfold witM at h
  split at h
  · have := of_decide_eq_true h; omega
  · have := of_decide_eq_true h; omega
theorem fl_ge (k : Int) : -1 ≤ (flM k).1 ∧ -1 ≤ (flM k).2.1 := by
  unfold flM
  repeat' split
  all_goals decide
theorem tag_in {m : Mm} (h : chkM m = 0) : m.tag.size ≤ 16 := by
  unfold chkM at h
  split at h
  · cases h
  · rename_i h2
    by_cases h3 : (flM m.k).2.2.2 = true
    · by_cases h4 : m.tag.size = 16
      · omega
      · exact absurd ⟨h, .inl ⟨h3, h4⟩⟩ h2
    · by_cases h4 : m.tag.size = 0
      · omega
      · exact absurd ⟨h, .inr ⟨by simpa using h3, h4⟩⟩ h2
def packM (m : Mm) : List ByteArray := [numJ m.k, (nameM m.g m.n).1, numJ m.v, numJ m.u, m.t, m.tag]
theorem enc_in {m : Mm} (h : chkM m = 0) : encM m = (packB (packM m), 0) := by unfold encM; rw [if_pos h]; rfl
theorem pack_in {m : Mm} (h : chkM m = 0) : ∀ x ∈ packM m, x.size ≤ 524288 := by
  obtain ⟨h1, h2, h3, h4, h5⟩ := right_in (right_of h)
  have h6 := wit_in h3 (fl_ge _).1
  have h7 := wit_in h4 (fl_ge _).2
  have h8 := tag_in h
  have hb : -1 ≤ m.g ∧ m.g ≤ 4 ∧ 0 ≤ m.n ∧ m.n ≤ 15 := of_decide_eq_true h2
  have a1 := itoa_len m.k (by omega)
  have a2 := itoa_len m.v (by omega)
  have a3 := itoa_len m.u (by omega)
  have a4 : (nameM m.g m.n).1.size ≤ 60 := by unfold nameM; rw [if_pos h2]; exact name_size _ _ hb
  intro x hx
  simp only [packM, List.mem_cons, List.not_mem_nil, or_false] at hx
  rcases hx with rfl | rfl | rfl | rfl | rfl | rfl <;> omega
theorem pack_len {m : Mm} (h : chkM m = 0) : (packL (packM m)).length ≤ 600000 := by
  obtain ⟨h1, h2, h3, h4, h5⟩ := right_in (right_of h)
  have h6 := wit_in h3 (fl_ge _).1
  have h7 := wit_in h4 (fl_ge _).2
  have h8 := tag_in h
  have hb : -1 ≤ m.g ∧ m.g ≤ 4 ∧ 0 ≤ m.n ∧ m.n ≤ 15 := of_decide_eq_true h2
  have a1 := itoa_len m.k (by omega)
  have a2 := itoa_len m.v (by omega)
  have a3 := itoa_len m.u (by omega)
  have a4 : (nameM m.g m.n).1.size ≤ 60 := by unfold nameM; rw [if_pos h2]; exact name_size _ _ hb
  unfold packM
  have b1 := pack_len1 (numJ m.k) [(nameM m.g m.n).1, numJ m.v, numJ m.u, m.t, m.tag] (by omega)
  have b2 := pack_len1 (nameM m.g m.n).1 [numJ m.v, numJ m.u, m.t, m.tag] (by omega)
  have b3 := pack_len1 (numJ m.v) [numJ m.u, m.t, m.tag] (by omega)
  have b4 := pack_len1 (numJ m.u) [m.t, m.tag] (by omega)
  have b5 := pack_len1 m.t [m.tag] (by omega)
  have b6 := pack_len1 m.tag [] (by omega)
  have b7 : (packL []).length = 0 := rfl
  omega
theorem unp_enc {m : Mm} (h : chkM m = 0) : unpR (encM m).1 = (packM m, 0) := by
  rw [enc_in h]; exact unpR_pack _ fun x hx => by have := pack_in h x hx; omega
theorem read_enc {m : Mm} (h : chkM m = 0) : readM (packM m) = m := by
  obtain ⟨h1, h2, h3, h4, h5⟩ := right_in (right_of h)
  have h6 := wit_in h3 (fl_ge _).1
  have h7 := wit_in h4 (fl_ge _).2
  have e0 : at' (packM m) 0 = numJ m.k := rfl
  have e1 : at' (packM m) 1 = (nameM m.g m.n).1 := rfl
  have e2 : at' (packM m) 2 = numJ m.v := rfl
  have e3 : at' (packM m) 3 = numJ m.u := rfl
  have e4 : at' (packM m) 4 = m.t := rfl
  have e5 : at' (packM m) 5 = m.tag := rfl
  unfold readM
  rw [e0, e1, e2, e3, e4, e5, party_name h2, num_numJ (by omega), num_numJ (by omega), num_numJ (by omega)]
/-- What was encoded is decoded. -/
theorem dec_enc {m : Mm} (h : chkM m = 0) : decM (encM m).1 = (m, 0) := by
  have h1 := unp_enc h
  have h2 := read_enc h
  unfold decM
  rw [h1, h2, if_pos ⟨rfl, rfl, by rw [enc_in h]⟩]
/-- What was decoded is encoded again. -/
theorem enc_dec {s : ByteArray} (h : (decM s).2 = 0) : encM (decM s).1 = (s, 0) := by
  unfold decM at h ⊢
  split at h
  · rename_i h1; rw [if_pos h1]; exact h1.2.2
  · cases h
theorem dec_ok {s : ByteArray} (hs : s.size < 1000000000) (h1 : (unpR s).2 = 0) (h2 : (unpR s).1.length = 6) : encM (readM (unpR s).1) = (s, 0) ↔ okR (unpR s).1 ∧ chkM (readM (unpR s).1) = 0 := by
  have hsz : ∀ x ∈ (unpR s).1, x.size < 1000000000 := fun x hx => Nat.lt_of_le_of_lt (unp_mem h1 x hx) hs
  have hinv := unpR_inv h1
  have hl := list6 h2
  generalize (unpR s).1 = r at *
  constructor
  · intro h
    have hc : chkM (readM r) = 0 := by
      unfold encM at h
      split at h
      · assumption
      · exact congrArg Prod.snd h
    refine ⟨?_, hc⟩
    rw [enc_in hc] at h
    have h := congrArg Prod.fst h
    have h : packB (packM (readM r)) = s := h
    rw [hinv] at h
    have e := pack_inj h (fun x hx => by have := pack_in hc x hx; omega) hsz
    rw [hl] at e
    unfold packM at e
    simp only [List.cons.injEq, and_true] at e
    obtain ⟨e0, e1, e2, e3, -, -⟩ := e
    obtain ⟨k1, k2, k3, k4, -⟩ := right_in (right_of hc)
    have h6 := wit_in k3 (fl_ge _).1
    have h7 := wit_in k4 (fl_ge _).2
    refine ⟨?_, ?_, ?_, ?_⟩
    · have := num_numJ (v := (readM r).k) (by omega); rw [hl, e0] at this; rw [← hl] at this; rw [this]
    · have := party_name k2; rw [hl, e1] at this; rw [← hl] at this; rw [this]
    · have := num_numJ (v := (readM r).v) (by omega); rw [hl, e2] at this; rw [← hl] at this; rw [this]
    · have := num_numJ (v := (readM r).u) (by omega); rw [hl, e3] at this; rw [← hl] at this; rw [this]
  · rintro ⟨⟨h3, h4, h5, h6⟩, hc⟩
    rw [enc_in hc, hinv]
    have e : packM (readM r) = [at' r 0, at' r 1, at' r 2, at' r 3, at' r 4, at' r 5] := by
      unfold packM
      have : (nameM (readM r).g (readM r).n).1 = at' r 1 := (party_is h4).2
      rw [this, show numJ (readM r).k = at' r 0 from (numM_ok h3).symm, show numJ (readM r).v = at' r 2 from (numM_ok h5).symm, show numJ (readM r).u = at' r 3 from (numM_ok h6).symm]
      rfl
    rw [e, ← hl]
end Go.Memo

namespace Go.Memo
open Go Go.Eng Go.Nest
set_option linter.unusedVariables false
abbrev MoOK (P : Program) (gl : Nat → Option (List D)) (f : FuncId) (mo : Mo) : Prop := ∀ args H r H' cs, mo args H = some (r, H', cs) → Conds cs → Eng.Spec P gl f args H r H'
theorem MoOK.any {P : Program} {gl : Nat → Option (List D)} {f : FuncId} {mo : Mo} (h : MoOK P (fun _ => none) f mo) : MoOK P gl f mo := fun args H r H' cs h1 h2 => Spec.glAny (h args H r H' cs h1 h2)
theorem MoOK.up {P : Program} {gl gl' : Nat → Option (List D)} {f : FuncId} {mo : Mo} (hg : ∀ g cs, gl g = some cs → gl' g = some cs) (h : MoOK P gl f mo) : MoOK P gl' f mo := fun args H r H' cs h1 h2 => Spec.mono hg (h args H r H' cs h1 h2)
theorem all2 {el : Nat → D} {r : List ByteArray} (h0 : el 0 = strEl r 0) (h1 : el 1 = strEl r 1) : ∀ i, i < 2 → el i = strEl r i
  | 0, _ => h0 | 1, _ => h1
  | i + 2, h => absurd h (by omega)
theorem all3 {el : Nat → D} {r : List ByteArray} (h0 : el 0 = strEl r 0) (h1 : el 1 = strEl r 1) (h2 : el 2 = strEl r 2) : ∀ i, i < 3 → el i = strEl r i
  | 0, _ => h0 | 1, _ => h1 | 2, _ => h2
  | i + 3, h => absurd h (by omega)
theorem all4 {el : Nat → D} {r : List ByteArray} (h0 : el 0 = strEl r 0) (h1 : el 1 = strEl r 1) (h2 : el 2 = strEl r 2) (h3 : el 3 = strEl r 3) : ∀ i, i < 4 → el i = strEl r i
  | 0, _ => h0 | 1, _ => h1 | 2, _ => h2 | 3, _ => h3
  | i + 4, h => absurd h (by omega)
theorem all5 {el : Nat → D} {r : List ByteArray} (h0 : el 0 = strEl r 0) (h1 : el 1 = strEl r 1) (h2 : el 2 = strEl r 2) (h3 : el 3 = strEl r 3) (h4 : el 4 = strEl r 4) : ∀ i, i < 5 → el i = strEl r i
  | 0, _ => h0 | 1, _ => h1 | 2, _ => h2 | 3, _ => h3 | 4, _ => h4
  | i + 5, h => absurd h (by omega)
theorem all6 {el : Nat → D} {r : List ByteArray} (h0 : el 0 = strEl r 0) (h1 : el 1 = strEl r 1) (h2 : el 2 = strEl r 2) (h3 : el 3 = strEl r 3) (h4 : el 4 = strEl r 4) (h5 : el 5 = strEl r 5) : ∀ i, i < 6 → el i = strEl r i
  | 0, _ => h0 | 1, _ => h1 | 2, _ => h2 | 3, _ => h3 | 4, _ => h4 | 5, _ => h5
  | i + 6, h => absurd h (by omega)
def mNum : Mo
  | [.d (.raw (.int .i64 n))], [] => some (.d (.raw (.string (numJ n))), [], [-9223372036854775808 ≤ n ∧ n < 9223372036854775808])
  | _, _ => none
/-- Pack of a list of known texts. -/
def mPackV (q : ByteArray) : Mo
  | [.d (.list 1 n el)], [] => some (.d (.raw (.string q)), [], [∃ r : List ByteArray, n = r.length ∧ (∀ i, i < n → el i = strEl r i) ∧ q = packB r ∧ (packL r).length ≤ 1073741824])
  | _, _ => none
def mPackRV (q : ByteArray) : Mo
  | [.own 0], [(0, .row T 1 n el)] => some (.d (.raw (.string q)), [(0, .row T 1 n el)], [T = 9, ∃ r : List ByteArray, n = r.length ∧ (∀ i, i < n → el i = strEl r i) ∧ q = packB r ∧ (packL r).length ≤ 1073741824])
  | _, _ => none
def mIs : Mo
  | [.d (.agg [.raw (.int .i64 g), .raw (.int .i64 n)])], [] => some (.d (.raw (.bool (isM g n))), [], [])
  | _, _ => none
def mName (q : ByteArray) (e : Int) : Mo
  | [.d (.agg [.raw (.int .i64 g), .raw (.int .i64 n)])], [] => some (.tup [.d (.raw (.string q)), .d (.raw (.int .i64 e))], [], [q = (nameM g n).1, e = (nameM g n).2])
  | _, _ => none
def mToNum : Mo
  | [.d (.raw (.string t))], [] => some (.tup [.d (.raw (.int .i64 (numM t).1)), .d (.raw (.int .i64 (numM t).2))], [], [t.size ≤ 1073741824])
  | _, _ => none
def mParty (g n f : Int) : Mo
  | [.d (.raw (.string t))], [] => some (.tup [.d (.agg [.raw (.int .i64 g), .raw (.int .i64 n)]), .d (.raw (.int .i64 f))], [], [t.size ≤ 1073741824, g = (partyM t).1, n = (partyM t).2.1, f = (partyM t).2.2])
  | _, _ => none
/-- The callees of the names' functions. -/
def N0 : Orc := ((Orc.none glP).add 28 false mNum).add 26 false mIs
def N1 (q : ByteArray) : Orc := N0.add 27 true (mPackV q)
def N2 (m : Int) (e1 e2 : Value) (r : List ByteArray) (f : Int) : Orc := (((Orc.none (glU m e1 e2)).add 26 false mIs).add 31 false (mUnpV r f)).add 32 false mToNum
end Go.Memo

namespace Go.Memo
open Go Go.Eng Go.Nest
set_option linter.unusedVariables false
def mPackR (r : List ByteArray) (q : ByteArray) : Mo
  | [.own 0], [(0, .row T 1 n el)] => some (.d (.raw (.string q)), [(0, .row T 1 n (strEl r))], [T = 9, n = r.length ∧ (∀ i, i < n → el i = strEl r i) ∧ q = packB r ∧ (packL r).length ≤ 1073741824])
  | _, _ => none
abbrev gz : Nat → Option (List D) := fun _ => none
def RN1 (r : List ByteArray) (q : ByteArray) : Orc := (((Orc.none gz).add 30 false mNum).add 15 false mIs).add 29 false (mPackR r q)
def RN2 (q : ByteArray) (e : Int) : Orc := (Orc.none gz).add 17 false (mName q e)
def pr1 (s : ByteArray) (g : Int) : St := mk 0 30 [(0, .d (.raw (.string s))), (2, .ref 0 0), (4, .d (.raw (.int .i64 g)))] [(0, .obj 23 [.d (.raw (.int .i64 0)), .d (.raw (.int .i64 0))])]
def pr2 (s : ByteArray) (g n : Int) : St := mk 0 30 [(0, .d (.raw (.string s))), (2, .ref 0 0), (4, .d (.raw (.int .i64 g))), (5, .d (.raw (.int .i64 n)))] [(0, .obj 23 [.d (.raw (.int .i64 0)), .d (.raw (.int .i64 0))])]
end Go.Memo
