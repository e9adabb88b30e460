/-
  Contracts of given functions, or plain laws that they need. No condition.
-/
import Derived.Test.YtbppcjkpkelbfaaDoorTab2
import Derived.Test.YtbppcjkpkelbfaaDoorEng19
import Derived.Test.YtbppcjkpkelbfaaDoorRowB
import Derived.Lib.ItoaNum
import Derived.Test.YtbppcjkpkelbfaaDoorRowK
import Derived.Lib.AtoiAllMem
import Derived.Lib.AtoiAllCases
import Derived.Lib.IndexMore
import Derived.Lib.AppendIntMem
import Derived.Lib.IndexBytes
namespace Go.Tab
open Go Go.Eng Go.Proofs
set_option linter.unusedVariables false
theorem sorted_of {l : List Rw} (h : ∀ i j, i < j → j < l.length → ltB (l.getD i (ByteArray.empty, ByteArray.empty)).1 (l.getD j (ByteArray.empty, ByteArray.empty)).1 = true) : Sorted l :=
  List.pairwise_iff_getElem.2 fun i j hi hj hij => by
    have := h i j hij hj
    rwa [getD_get hi, getD_get hj] at this
theorem getD_mem {l : List Rw} {i : Nat} (h : i < l.length) : l.getD i (ByteArray.empty, ByteArray.empty) ∈ l := by rw [getD_get h]; exact List.getElem_mem h
theorem put_tidy {l : List Rw} (h : Tidy l) {key val : ByteArray} (hk : 0 < key.size ∧ key.size ≤ 16) (hv : val.size ≤ 64) (hf : fullM l key = false) : Tidy (putM l key val) := by
  have hp := posM_le l key
  cases hh : hasM l key with
  | true =>
    obtain ⟨h1, h2⟩ := hasM_true h.sorted hh
    have e : putM l key val = l.set (posM l key) (key, val) := by unfold putM; rw [hh]; rfl
    have eg : ∀ i, ((l.set (posM l key) (key, val)).getD i (ByteArray.empty, ByteArray.empty)).1 = (l.getD i (ByteArray.empty, ByteArray.empty)).1 := fun i => by
      by_cases hi : i = posM l key
      · subst hi; rw [h2]; simp [List.getD, h1]
      · simp [List.getD, List.getElem?_set, Ne.symm hi]
    rw [e]
    refine ⟨sorted_of fun i j hij hj => ?_, by simpa using h.few, fun r hr => ?_⟩
    · rw [eg, eg]; exact sorted_lt h.sorted hij (by simpa using hj)
    · rcases List.mem_or_eq_of_mem_set hr with hr | rfl
      · exact h.sized r hr
      · exact ⟨hk.1, hk.2, hv⟩
  | false =>
    have hlen : l.length ≠ 16 := by unfold fullM at hf; rw [hh] at hf; simpa using hf
    have hfew := h.few
    have e : putM l key val = l.take (posM l key) ++ (key, val) :: l.drop (posM l key) := by unfold putM; rw [hh]; rfl
    rw [e]
    refine ⟨?_, by simp; omega, fun r hr => ?_⟩
    · have hgt : ∀ r ∈ l.drop (posM l key), ltB key r.1 = true := fun r hr => by
        obtain ⟨j, hj, rfl⟩ := List.getElem_of_mem hr
        rw [List.getElem_drop]
        have hjl : posM l key + j < l.length := by simp at hj; omega
        have h0 := posM_hi l key (by omega)
        have hne : (l.getD (posM l key) (ByteArray.empty, ByteArray.empty)).1 ≠ key := fun he => by
          rw [hasM_pos h.sorted, he] at hh
          have : posM l key < l.length := by omega
          simp [this] at hh
        have h3 : ltB key (l.getD (posM l key) (ByteArray.empty, ByteArray.empty)).1 = true := by
          cases hx : ltB key (l.getD (posM l key) (ByteArray.empty, ByteArray.empty)).1
          · exact absurd (ltB_tri h0 hx) hne
          · rfl
        cases j with
        | zero => rw [getD_get (by omega)] at h3; exact h3
        | succ j =>
          have := ltB_trans h3 (sorted_lt h.sorted (i := posM l key) (j := posM l key + (j + 1)) (by omega) hjl)
          rwa [getD_get hjl] at this
      have hlt : ∀ r ∈ l.take (posM l key), ltB r.1 key = true := fun r hr => by
        obtain ⟨j, hj, rfl⟩ := List.getElem_of_mem hr
        rw [List.getElem_take]
        have hjp : j < posM l key := by simp at hj; omega
        have := posM_lo l key j hjp
        rwa [getD_get (by omega)] at this
      refine List.pairwise_append.2 ⟨h.sorted.sublist (List.take_sublist _ _), List.pairwise_cons.2 ⟨hgt, h.sorted.sublist (List.drop_sublist _ _)⟩, fun a ha b hb => ?_⟩
      rcases List.mem_cons.1 hb with rfl | hb
      · exact hlt a ha
      · exact ltB_trans (hlt a ha) (hgt b hb)
    · rcases List.mem_append.1 hr with hr | hr
      · exact h.sized r (List.mem_of_mem_take hr)
      · rcases List.mem_cons.1 hr with rfl | hr
        · exact ⟨hk.1, hk.2, hv⟩
        · exact h.sized r (List.mem_of_mem_drop hr)
theorem erase_tidy {l : List Rw} (h : Tidy l) (i : Nat) : Tidy (l.eraseIdx i) :=
  ⟨h.sorted.sublist (List.eraseIdx_sublist _ _), Nat.le_trans (List.eraseIdx_sublist l i).length_le h.few, fun r hr => h.sized r ((List.eraseIdx_sublist l i).mem hr)⟩
theorem check_sizes {k : Int} {key val old : ByteArray} (h : checkM k key val old = 0) : (1 ≤ k ∧ k ≤ 5) ∧ (0 < key.size ∧ key.size ≤ 16) ∧ val.size ≤ 64 ∧ old.size ≤ 64 := by
  unfold checkM at h
  split at h
  · cases h
  · split at h
    · cases h
    · omega
theorem do_tidy {l : List Rw} (h : Tidy l) (k : Int) (key val old : ByteArray) : Tidy (doM l k key val old).2.2 := by
  unfold doM
  split
  · rename_i hc
    obtain ⟨_, hk, hv, _⟩ := check_sizes hc
    split
    · split
      · exact h
      · rename_i hf; exact put_tidy h hk hv (Bool.eq_false_iff.2 hf)
    · split
      · split
        · exact h
        · rename_i hf
          split
          · rename_i hs; exact put_tidy h hk hs (Bool.eq_false_iff.2 hf)
          · exact h
      · split
        · rename_i hh
          have hf : fullM l key = false := by unfold fullM; rw [hh]; rfl
          split
          · exact erase_tidy h _
          · split
            · split
              · exact put_tidy h hk hv hf
              · exact h
            · exact h
        · exact h
  · exact h
end Go.Tab

namespace Go.Tab
open Go Go.Eng
set_option linter.unusedVariables false
theorem hasM_append (a b : List Rw) (x : ByteArray) : hasM (a ++ b) x = (hasM a x || hasM b x) := by unfold hasM; rw [List.any_append]
end Go.Tab

namespace Go.Tab
open Go Go.Eng
set_option linter.unusedVariables false
theorem sorted_uniq {l : List Rw} (h : Sorted l) {i j : Nat} (hi : i < l.length) (hj : j < l.length) (he : l[i].1 = l[j].1) : i = j := by
  have h1 := List.pairwise_iff_getElem.1 h
  rcases Nat.lt_trichotomy i j with hh | hh | hh
  · have := h1 i j hi hj hh
    unfold ltB at this; rw [he, bl_irrefl] at this; cases this
  · exact hh
  · have := h1 j i hj hi hh
    unfold ltB at this; rw [he, bl_irrefl] at this; cases this
theorem had_mem {l : List Rw} (h : Sorted l) {key v : ByteArray} (hm : (key, v) ∈ l) : hadM l key = v := by
  have hh : hasM l key = true := by unfold hasM; exact List.any_eq_true.2 ⟨_, hm, by simp⟩
  obtain ⟨hp, hk⟩ := hasM_true h hh
  obtain ⟨j, hj, e⟩ := List.getElem_of_mem hm
  unfold hadM; rw [if_pos hh]
  rw [getD_get hp] at hk ⊢
  have := sorted_uniq h hp hj (by rw [hk, e])
  subst this; rw [e]
theorem has_erase {l : List Rw} (h : Sorted l) (key : ByteArray) (hh : hasM l key = true) : hasM (l.eraseIdx (posM l key)) key = false := by
  obtain ⟨hp, hk⟩ := hasM_true h hh
  cases hx : hasM (l.eraseIdx (posM l key)) key with
  | false => rfl
  | true =>
    unfold hasM at hx
    obtain ⟨r, hr, e⟩ := List.any_eq_true.1 hx
    have e : r.1 = key := of_decide_eq_true e
    obtain ⟨i, hi, hne, e2⟩ := List.mem_eraseIdx_iff_getElem.1 hr
    rw [getD_get hp] at hk
    exact absurd (sorted_uniq h hi hp (by rw [e2, e, hk])) hne
end Go.Tab

namespace Go.Bla
open Go Go.Eng
set_option linter.unusedVariables false
abbrev W := BitVec 32
def wd (x : W) : D := .raw (.int .u32 x.toNat)
def unw (n : Int) : W := BitVec.ofNat 32 n.toNat
def av (x : W) : AV := .d (wd x)
def iw (x : W) : D := .raw (.int .i64 x.toNat)
theorem unw_w (x : W) : unw (x.toNat : Int) = x := by simp [unw]
theorem wrap_u32 (x : Int) : IntKind.u32.wrap x = x % 4294967296 := by set_option maxRecDepth 10000 in simp [IntKind.wrap, IntKind.bits, IntKind.signed]
theorem wrap_u64 (x : Int) : IntKind.u64.wrap x = x % 18446744073709551616 := by set_option maxRecDepth 10000 in simp [IntKind.wrap, IntKind.bits, IntKind.signed]
theorem wrap_u8 (x : Int) : IntKind.u8.wrap x = x % 256 := by set_option maxRecDepth 10000 in simp [IntKind.wrap, IntKind.bits, IntKind.signed]
def half (a b c d w : W) (n1 n2 : Nat) : W × W × W × W :=
  let a' := a + b + w
  let d' := (d ^^^ a').rotateRight n1
  let c' := c + d'
  (a', (b ^^^ c').rotateRight n2, c', d')
def gM (a b c d x y : W) : W × W × W × W :=
  let h := half a b c d x 16 12
  half h.1 h.2.1 h.2.2.1 h.2.2.2 y 8 7
def putM (v : List W) (a b c d : Nat) (x y : W) : List W :=
  let g := gM (v.getD a 0) (v.getD b 0) (v.getD c 0) (v.getD d 0) x y
  (((v.set a g.1).set b g.2.1).set c g.2.2.1).set d g.2.2.2
def roundM (v : List W) (m : Nat → W) : List W :=
  let v := putM v 0 4 8 12 (m 0) (m 1)
  let v := putM v 1 5 9 13 (m 2) (m 3)
  let v := putM v 2 6 10 14 (m 4) (m 5)
  let v := putM v 3 7 11 15 (m 6) (m 7)
  let v := putM v 0 5 10 15 (m 8) (m 9)
  let v := putM v 1 6 11 12 (m 10) (m 11)
  let v := putM v 2 7 8 13 (m 12) (m 13)
  putM v 3 4 9 14 (m 14) (m 15)
theorem len_putM (v : List W) (a b c d : Nat) (x y : W) : (putM v a b c d x y).length = v.length := by simp [putM]
theorem len_roundM (v : List W) (m : Nat → W) : (roundM v m).length = v.length := by simp [roundM, len_putM]
def sigma : List (List Nat) := [
    [0, 1, 2, 3, 4, 5, 6, 7, 8, 9, 10, 11, 12, 13, 14, 15],
    [14, 10, 4, 8, 9, 15, 13, 6, 1, 12, 0, 2, 11, 7, 5, 3],
    [11, 8, 12, 0, 5, 2, 15, 13, 10, 14, 3, 6, 7, 1, 9, 4],
    [7, 9, 3, 1, 13, 12, 11, 14, 2, 6, 5, 10, 4, 0, 15, 8],
    [9, 0, 5, 7, 2, 4, 10, 15, 14, 1, 11, 12, 6, 8, 3, 13],
    [2, 12, 6, 10, 0, 11, 8, 3, 4, 13, 7, 5, 15, 14, 1, 9],
    [12, 5, 1, 15, 14, 13, 4, 10, 0, 7, 6, 3, 9, 2, 8, 11],
    [13, 11, 7, 14, 12, 1, 3, 9, 5, 0, 15, 4, 8, 6, 2, 10],
    [6, 15, 14, 9, 11, 3, 0, 8, 12, 2, 13, 7, 1, 4, 10, 5],
    [10, 2, 8, 4, 7, 6, 1, 5, 15, 11, 9, 14, 3, 12, 13, 0]]
def sg (r j : Nat) : Nat := (sigma.getD r []).getD j 0
def rounds (m : List W) : Nat → List W → List W
  | 0, v => v
  | r + 1, v => roundM (rounds m r v) fun j => m.getD (sg r j) 0
theorem len_rounds (m : List W) (v : List W) : ∀ r, (rounds m r v).length = v.length
  | 0 => rfl
  | r + 1 => by rw [rounds, len_roundM, len_rounds m v r]
def ivM : List W := [0x6A09E667#32, 0xBB67AE85#32, 0x3C6EF372#32, 0xA54FF53A#32, 0x510E527F#32, 0x9B05688C#32, 0x1F83D9AB#32, 0x5BE0CD19#32]
def startM (h : List W) (t0 t1 : W) (last : Bool) : List W :=
  let v := h ++ ivM
  let v := (v.set 12 (v.getD 12 0 ^^^ t0)).set 13 (v.getD 13 0 ^^^ t1)
  if last then v.set 14 (~~~ (v.getD 14 0)) else v
def blockM (h m : List W) (t0 t1 : W) (last : Bool) : List W :=
  let v := rounds m 10 (startM h t0 t1 last)
  (List.range 8).map fun i => h.getD i 0 ^^^ v.getD i 0 ^^^ v.getD (i + 8) 0
theorem or_toNat (x y : Nat) (hx : x < 4294967296) (hy : y < 4294967296) : (BitVec.ofInt 32 (x : Int) ||| BitVec.ofInt 32 (y : Int)).toNat = x ||| y := by
  rw [BitVec.toNat_or]
  simp only [BitVec.ofInt_natCast, BitVec.toNat_ofNat]
  rw [Nat.mod_eq_of_lt hx, Nat.mod_eq_of_lt hy]
theorem int_pow2 (n : Nat) : (2 : Int) ^ n = ((2 ^ n : Nat) : Int) := by rw [Int.natCast_pow]; rfl
theorem rot_eq (x : W) (n : Nat) (h1 : n < 32) :
    IntKind.u32.wrap (((BitVec.ofInt IntKind.u32.bits (IntKind.u32.wrap ((x.toNat : Int) * 2 ^ (32 - n))) ||| BitVec.ofInt IntKind.u32.bits ((x.toNat : Int).fdiv (2 ^ n))).toNat : Nat) : Int) = ((x.rotateRight n).toNat : Int) := by
  have hx : x.toNat < 4294967296 := x.isLt
  have e1 : IntKind.u32.wrap ((x.toNat : Int) * 2 ^ (32 - n)) = ((x.toNat * 2 ^ (32 - n) % 4294967296 : Nat) : Int) := by
    rw [wrap_u32, int_pow2, ← Int.natCast_mul, Int.natCast_emod]; rfl
  have e2 : (x.toNat : Int).fdiv (2 ^ n) = ((x.toNat / 2 ^ n : Nat) : Int) := by
    rw [int_pow2, Int.fdiv_eq_ediv_of_nonneg _ (Int.natCast_nonneg _), Int.natCast_ediv]
  rw [e1, e2]
  have hb : x.toNat / 2 ^ n < 4294967296 := Nat.lt_of_le_of_lt (Nat.div_le_self _ _) hx
  show IntKind.u32.wrap (((BitVec.ofInt 32 _ ||| BitVec.ofInt 32 _).toNat : Nat) : Int) = _
  rw [or_toNat _ _ (Nat.mod_lt _ (by decide)) hb, wrap_u32, BitVec.toNat_rotateRight, Nat.mod_eq_of_lt h1, Nat.shiftRight_eq_div_pow, Nat.shiftLeft_eq, Nat.or_comm]
  have hlt : (x.toNat / 2 ^ n ||| x.toNat * 2 ^ (32 - n) % 2 ^ 32) < 2 ^ 32 := Nat.or_lt_two_pow hb (Nat.mod_lt _ (by decide))
  have e3 : (4294967296 : Nat) = 2 ^ 32 := rfl
  rw [e3]
  omega
theorem add_eq (x y : W) : IntKind.u32.wrap ((x.toNat : Int) + y.toNat) = ((x + y).toNat : Int) := by
  rw [wrap_u32, BitVec.toNat_add]; omega
theorem xor_toNat (x y : W) : (BitVec.ofInt 32 (x.toNat : Int) ^^^ BitVec.ofInt 32 (y.toNat : Int)).toNat = (x ^^^ y).toNat := by
  simp only [BitVec.ofInt_natCast, BitVec.ofNat_toNat, BitVec.setWidth_eq]
theorem xor_eq (x y : W) : IntKind.u32.wrap (((BitVec.ofInt 32 (x.toNat : Int) ^^^ BitVec.ofInt 32 (y.toNat : Int)).toNat : Nat) : Int) = ((x ^^^ y).toNat : Int) := by
  rw [xor_toNat, wrap_u32]
  have := (x ^^^ y).isLt
  omega
def I (n : Int) : D := .raw (.int .i64 n)
def mRot : List AV → List (Nat × Th) → Option (AV × List (Nat × Th) × List Prop)
  | [.d (.raw (.int .u32 x)), .d (.raw (.int .i64 k))], [] => some (av ((unw x).rotateRight (-k).toNat), [], [x = ((unw x).toNat : Int), k = -16 ∨ k = -12 ∨ k = -8 ∨ k = -7])
  | _, _ => none
def lane (q : W × W × W × W) : D := .agg [wd q.1, wd q.2.1, wd q.2.2.1, wd q.2.2.2]
def mHalf : List AV → List (Nat × Th) → Option (AV × List (Nat × Th) × List Prop)
  | [.d (.agg [.raw (.int .u32 a), .raw (.int .u32 b), .raw (.int .u32 c), .raw (.int .u32 d)]), .d (.raw (.int .u32 w)), .d (.raw (.int .i64 p)), .d (.raw (.int .i64 q))], [] =>
    some (.d (lane (half (unw a) (unw b) (unw c) (unw d) (unw w) p.toNat q.toNat)), [], [a = ((unw a).toNat : Int), b = ((unw b).toNat : Int), c = ((unw c).toNat : Int), d = ((unw d).toNat : Int), w = ((unw w).toNat : Int), (p = 16 ∧ q = 12) ∨ (p = 8 ∧ q = 7)])
  | _, _ => none
def nib (row : ByteArray) (j : Nat) : Nat :=
  let c := byteAt row j
  if (c - 48) % 256 > 9 then ((c - 97) % 256 + 10).toNat % 256 else ((c - 48) % 256).toNat
def HexRow (row : ByteArray) : Prop := row.size = 16 ∧ ∀ j, j < 16 → (48 ≤ byteAt row j ∧ byteAt row j ≤ 57) ∨ (97 ≤ byteAt row j ∧ byteAt row j ≤ 102)
def words (m : List W) : List AV := m.map av
def numsOf : List AV → Option (List Int)
  | [] => some []
  | .d (.raw (.int .u32 n)) :: r => (numsOf r).map (n :: ·)
  | _ => none
def OkW (ns : List Int) : Prop := ns = (ns.map unw).map fun x => (x.toNat : Int)
theorem words_of : ∀ {cs : List AV} {ns : List Int}, numsOf cs = some ns → OkW ns → cs = words (ns.map unw)
  | [], ns, h, _ => by simp only [numsOf, Option.some.injEq] at h; subst h; rfl
  | c :: cs, ns, h, hk => by
    unfold numsOf at h
    split at h
    · rename_i h0; cases h0
    · rename_i n r h0
      cases h0
      obtain ⟨ns', h1, rfl⟩ := Option.map_eq_some_iff.1 h
      unfold OkW at hk
      simp only [List.map_cons, List.cons.injEq] at hk
      have ih := words_of h1 hk.2
      rw [ih]
      show _ :: _ = av (unw n) :: _
      unfold av wd
      rw [← hk.1]
      rfl
    · cases h
theorem OkW_map (l : List W) : OkW (l.map fun x => (x.toNat : Int)) := by
  unfold OkW
  rw [List.map_map, List.map_map]
  apply List.map_congr_left
  intro x _
  simp [unw_w]
def mDig : List AV → List (Nat × Th) → Option (AV × List (Nat × Th) × List Prop)
  | [.ref 0 0, .d (.raw (.string row)), .d (.raw (.int .i64 j))], [(0, .obj T cs)] =>
    match numsOf cs with
    | some ns => some (av ((ns.map unw).getD (nib row j.toNat) 0), [(0, .obj T cs)], [OkW ns, ns.length = 16, HexRow row, 0 ≤ j ∧ j < 16])
    | none => none
  | _, _ => none
end Go.Bla

namespace Go.Bla
open Go Go.Eng
set_option maxRecDepth 100000
def gl : Nat → Option (List D) := fun g =>
  if g == 0 then some (ivM.map wd)
  else if g == 1 then some [.raw (.string ⟨#[48, 49, 50, 51, 52, 53, 54, 55, 56, 57, 97, 98, 99, 100, 101, 102]⟩), .raw (.string ⟨#[101, 97, 52, 56, 57, 102, 100, 54, 49, 99, 48, 50, 98, 55, 53, 51]⟩), .raw (.string ⟨#[98, 56, 99, 48, 53, 50, 102, 100, 97, 101, 51, 54, 55, 49, 57, 52]⟩), .raw (.string ⟨#[55, 57, 51, 49, 100, 99, 98, 101, 50, 54, 53, 97, 52, 48, 102, 56]⟩), .raw (.string ⟨#[57, 48, 53, 55, 50, 52, 97, 102, 101, 49, 98, 99, 54, 56, 51, 100]⟩), .raw (.string ⟨#[50, 99, 54, 97, 48, 98, 56, 51, 52, 100, 55, 53, 102, 101, 49, 57]⟩), .raw (.string ⟨#[99, 53, 49, 102, 101, 100, 52, 97, 48, 55, 54, 51, 57, 50, 56, 98]⟩), .raw (.string ⟨#[100, 98, 55, 101, 99, 49, 51, 57, 53, 48, 102, 52, 56, 54, 50, 97]⟩), .raw (.string ⟨#[54, 102, 101, 57, 98, 51, 48, 56, 99, 50, 100, 55, 49, 52, 97, 53]⟩), .raw (.string ⟨#[97, 50, 56, 52, 55, 54, 49, 53, 102, 98, 57, 101, 51, 99, 100, 48]⟩)]
  else none
def O1 : Orc := (Orc.none gl).add 77 false mRot
def O2 : Orc := O1.add 73 false mHalf
def O3 : Orc := O2.add 74 false mDig
end Go.Bla

namespace Go.Bla
open Go Go.Eng
set_option linter.unusedVariables false
set_option maxRecDepth 100000
def colM (v m : List W) (row : ByteArray) : List W :=
  putM (putM (putM (putM (v) 0 4 8 12 (m.getD (nib row 0) 0) (m.getD (nib row 1) 0)) 1 5 9 13 (m.getD (nib row 2) 0) (m.getD (nib row 3) 0)) 2 6 10 14 (m.getD (nib row 4) 0) (m.getD (nib row 5) 0)) 3 7 11 15 (m.getD (nib row 6) 0) (m.getD (nib row 7) 0)
def diaM (v m : List W) (row : ByteArray) : List W :=
  putM (putM (putM (putM (v) 0 5 10 15 (m.getD (nib row 8) 0) (m.getD (nib row 9) 0)) 1 6 11 12 (m.getD (nib row 10) 0) (m.getD (nib row 11) 0)) 2 7 8 13 (m.getD (nib row 12) 0) (m.getD (nib row 13) 0)) 3 4 9 14 (m.getD (nib row 14) 0) (m.getD (nib row 15) 0)
theorem len_colM (v m : List W) (row : ByteArray) : (colM v m row).length = v.length := by simp [colM, len_putM]
theorem len_diaM (v m : List W) (row : ByteArray) : (diaM v m row).length = v.length := by simp [diaM, len_putM]
def outW (l : List W) : List AV := [av (l.getD 0 0), av (l.getD 1 0), av (l.getD 2 0), av (l.getD 3 0), av (l.getD 4 0), av (l.getD 5 0), av (l.getD 6 0), av (l.getD 7 0), av (l.getD 8 0), av (l.getD 9 0), av (l.getD 10 0), av (l.getD 11 0), av (l.getD 12 0), av (l.getD 13 0), av (l.getD 14 0), av (l.getD 15 0)]
theorem outW_eq {l : List W} (h : l.length = 16) : words l = outW l := by
  match l, h with
  | [a0, a1, a2, a3, a4, a5, a6, a7, a8, a9, a10, a11, a12, a13, a14, a15], _ => rfl
def mTurn : List AV → List (Nat × Th) → Option (AV × List (Nat × Th) × List Prop)
  | [.ref 0 0, .ref 1 0, .d (.raw (.string row)), .d (.raw (.int .i64 at_)), .d (.raw (.int .i64 ap))], [(0, .obj T cs), (1, .obj U ds)] =>
    match numsOf cs, numsOf ds with
    | some ns, some ms =>
      match at_ == 0 && ap == 0, at_ == 8 && ap == 1 with
      | true, _ => some (.dead, [(0, .obj T (outW (colM (ns.map unw) (ms.map unw) row))), (1, .obj U ds)], [OkW ns, ns.length = 16, OkW ms, ms.length = 16, HexRow row])
      | _, true => some (.dead, [(0, .obj T (outW (diaM (ns.map unw) (ms.map unw) row))), (1, .obj U ds)], [OkW ns, ns.length = 16, OkW ms, ms.length = 16, HexRow row])
      | _, _ => none
    | _, _ => none
  | _, _ => none
def O4 : Orc := O3.add 68 false mTurn
def rowsD : List D := (gl 1).getD []
def rowB (r : Nat) : ByteArray := match rowsD[r]? with
  | some (.raw (.string b)) => b
  | _ => ByteArray.empty
def bst (T : Nat) (h : List W) (t : Int) (m v : List W) (i : Int) : St := mk 1 138 [(0, .ref 0 0), (8, .ref 1 0), (11, .ref 2 0), (99, .d (.agg rowsD)), (100, .d (I i))] [(0, .obj T (words h ++ [.d (.raw (.int .u64 t))])), (1, .obj 152 (words m)), (2, .obj 154 (words v))]
def bst2 (T : Nat) (h : List W) (t : Int) (m v : List W) (i : Int) (row : ByteArray) : St := mk 1 138 [(0, .ref 0 0), (8, .ref 1 0), (11, .ref 2 0), (14, .d (.raw (.string row))), (99, .d (.agg rowsD)), (100, .d (I i))] [(0, .obj T (words h ++ [.d (.raw (.int .u64 t))])), (1, .obj 152 (words m)), (2, .obj 154 (words v))]
end Go.Bla

namespace Go.Bla
open Go Go.Eng
set_option linter.unusedVariables false
def bs0 (T : Nat) (h : List W) (t n : Int) (last : Bool) (b : Nat → Int) (cells : List AV) (i : Int) : St := mk 1 138 [(0, .ref 0 0), (2, .d (I n)), (3, .d (.raw (.bool last))), (8, .ref 1 0), (16, .d (.agg ((List.range 64).map fun i => .raw (.int .u8 (b i))))), (17, .d (I i))] [(0, .obj T (words h ++ [.d (.raw (.int .u64 t))])), (1, .obj 152 cells)]
end Go.Bla

namespace Go.Bla
open Go Go.Eng
set_option linter.unusedVariables false
def wd4 (a b c d : Int) : W := unw (a + 256 * b + 65536 * c + 16777216 * d)
def mW (b : Nat → Int) : List W := (List.range 16).map fun i => wd4 (b (4 * i)) (b (4 * i + 1)) (b (4 * i + 2)) (b (4 * i + 3))
def outN (n : Nat) (l : List W) : List AV := (List.range n).map fun i => av (l.getD i 0)
def tadd (t n : Int) : Nat := (IntKind.u64.wrap (t + IntKind.u64.wrap n)).toNat
def OkB (ds : List D) : Prop := ∃ f : Nat → Int, (∀ i, 0 ≤ f i ∧ f i < 256) ∧ ds = (List.range 64).map fun i => .raw (.int .u8 (f i))
def fnB (ds : List D) (i : Nat) : Int := unI (ds.getD i default)
def mBlock : List AV → List (Nat × Th) → Option (AV × List (Nat × Th) × List Prop)
  | [.ref 0 0, .d (.agg ds), .d (.raw (.int .i64 n)), .d (.raw (.bool last))], [(0, .obj T [.d (.raw (.int .u32 a0)), .d (.raw (.int .u32 a1)), .d (.raw (.int .u32 a2)), .d (.raw (.int .u32 a3)), .d (.raw (.int .u32 a4)), .d (.raw (.int .u32 a5)), .d (.raw (.int .u32 a6)), .d (.raw (.int .u32 a7)), .d (.raw (.int .u64 t))])] =>
    some (.dead, [(0, .obj T (outN 8 (blockM ([a0, a1, a2, a3, a4, a5, a6, a7].map unw) (mW (fnB ds)) (BitVec.ofNat 32 (tadd t n)) (BitVec.ofNat 32 (tadd t n / 4294967296)) last) ++ [.d (.raw (.int .u64 (tadd t n)))]))], [OkW [a0, a1, a2, a3, a4, a5, a6, a7], OkB ds])
  | _, _ => none
def O5 : Orc := O4.add 62 false mBlock
def sst (key text : ByteArray) (first : Bool) (h : List W) (t : Int) : St := mk 0 82 [(0, .d (.raw (.string key))), (1, .d (.raw (.string text))), (6, .ref 0 0), (8, .d (.raw (.bool first)))] [(0, .obj 136 (words h ++ [.d (.raw (.int .u64 t))]))]
def bytes64 (b : Nat → Int) : List AV := (List.range 64).map fun i => .d (.raw (.int .u8 (b i)))
def sstK (key text : ByteArray) (h : List W) (t : Int) (b : Nat → Int) : St := mk 0 82 [(0, .d (.raw (.string key))), (1, .d (.raw (.string text))), (6, .ref 0 0), (7, .ref 1 0)] [(0, .obj 136 (words h ++ [.d (.raw (.int .u64 t))])), (1, .obj 137 (bytes64 b))]
def sstB (key text : ByteArray) (h : List W) (t : Int) (b : Nat → Int) (k : Int) : St := mk 0 82 [(0, .d (.raw (.string key))), (1, .d (.raw (.string text))), (6, .ref 0 0), (9, .ref 1 0), (10, .d (I k))] [(0, .obj 136 (words h ++ [.d (.raw (.int .u64 t))])), (1, .obj 137 (bytes64 b))]
def goM : Nat → Bool → ByteArray → List W → Int → List W
  | 0, _, _, h, _ => h
  | n + 1, first, text, h, t =>
    if first || !(text.toList == ByteArray.empty.toList) then
      let k := Nat.min text.size 64
      let rest := text.extract k text.size
      goM n false rest (blockM h (mW (byteAt text)) (BitVec.ofNat 32 (tadd t k)) (BitVec.ofNat 32 (tadd t k / 4294967296)) (rest.toList == ByteArray.empty.toList)) (tadd t k)
    else h
def outM (h : List W) : ByteArray := ⟨((List.range 32).map fun i => UInt8.ofNat (((h.getD (i / 4) 0).toNat / 2 ^ (8 * (i % 4))) % 256)).toArray⟩
def h0M (n : Nat) : List W := ivM.set 0 (0x6A09E667#32 ^^^ (0x01010020#32 ^^^ BitVec.ofNat 32 (n * 256)))
def sumM (key text : ByteArray) : ByteArray :=
  let h := h0M key.size
  if key.toList == ByteArray.empty.toList then outM (goM (text.size + 2) true text h 0)
  else outM (goM (text.size + 2) false text (blockM h (mW (byteAt key)) (BitVec.ofNat 32 (tadd 0 64)) (BitVec.ofNat 32 (tadd 0 64 / 4294967296)) (text.toList == ByteArray.empty.toList)) (tadd 0 64))
end Go.Bla

namespace Go.Nest
open Go Go.Eng
set_option linter.unusedVariables false
end Go.Nest

namespace Go.Nest
open Go Go.Eng
set_option linter.unusedVariables false
end Go.Nest

namespace Go.Nest
open Go Go.Eng
set_option linter.unusedVariables false
end Go.Nest

namespace Go.Nest
open Go Go.Eng Go.Proofs
set_option linter.unusedVariables false
theorem wrapE (x : Int) : IntKind.i64.wrap x = (x + 9223372036854775808) % 18446744073709551616 - 9223372036854775808 := by
  have : IntKind.i64.wrap x = if 9223372036854775808 ≤ x % 18446744073709551616 then x % 18446744073709551616 - 18446744073709551616 else x % 18446744073709551616 := by
    set_option maxRecDepth 10000 in simp [IntKind.wrap, IntKind.bits, IntKind.signed]
  rw [this]; split <;> omega
end Go.Nest

namespace Go.Plc
open Go Go.Eng
set_option linter.unusedVariables false
abbrev Mo := List AV → List (Nat × Th) → Option (AV × List (Nat × Th) × List Prop)
def mSumV (q : ByteArray) : Mo
  | [.d (.raw (.string k)), .d (.raw (.string t))], [] => some (.tup [.d (.raw (.string q)), .d (.raw (.int .i64 0))], [], [k = ByteArray.empty, q = Go.Bla.sumM k t, t.size ≤ 1073741824])
  | _, _ => none
def plc (key : ByteArray) : Int := byteAt (Go.Bla.sumM ByteArray.empty key) 0 % 4
def X0 (q : ByteArray) : Orc := (Orc.none Go.Bla.gl).add 54 false (mSumV q)
def X1 (q : ByteArray) : Orc := (Orc.none Go.Bla.gl).add 53 false (mSumV q)
end Go.Plc

namespace Go.Prf
open Go Go.Eng Go.Tab Go.Plc
set_option linter.unusedVariables false
abbrev Mo := List AV → List (Nat × Th) → Option (AV × List (Nat × Th) × List Prop)
abbrev gz0 : Nat → Option (List D) := fun _ => none
abbrev OpT := Int × ByteArray × ByteArray × ByteArray
def opD (o : OpT) : D := .agg [.raw (.int .i64 o.1), .raw (.string o.2.1), .raw (.string o.2.2.1), .raw (.string o.2.2.2)]
def noOp : OpT := (0, ByteArray.empty, ByteArray.empty, ByteArray.empty)
def opEl (l : List OpT) (i : Nat) : D := opD (l.getD i noOp)
abbrev An := Int × ByteArray
def anD (a : An) : D := .agg [.raw (.int .i64 a.1), .raw (.string a.2)]
def anEl (l : List An) (i : Nat) : D := anD (l.getD i (0, ByteArray.empty))
structure Ca where
  cl : Int
  n : Int
  o : OpT
  fr : Int
  to : Int
  a : An
def noCa : Ca := ⟨0, 0, noOp, 0, 0, (0, ByteArray.empty)⟩
def caD (c : Ca) : D := .agg [.raw (.int .i64 c.cl), .raw (.int .i64 c.n), .raw (.int .i64 c.o.1), .raw (.string c.o.2.1), .raw (.string c.o.2.2.1), .raw (.string c.o.2.2.2), .raw (.int .i64 c.fr), .raw (.int .i64 c.to), .raw (.int .i64 c.a.1), .raw (.string c.a.2)]
def caEl (l : List Ca) (i : Nat) : D := caD (l.getD i noCa)
structure Pt where
  at' : Int
  cl : Int
  n : Int
  a : An
def noPt : Pt := ⟨0, 0, 0, (0, ByteArray.empty)⟩
def ptD (p : Pt) : D := .agg [.raw (.int .i64 p.at'), .raw (.int .i64 p.cl), .raw (.int .i64 p.n), .raw (.int .i64 p.a.1), .raw (.string p.a.2)]
def ptEl (l : List Pt) (i : Nat) : D := ptD (l.getD i noPt)
structure T4 where
  a : List Rw
  b : List Rw
  c : List Rw
  d : List Rw
def rfs : AV := .agg [.ref 0 0, .ref 2 0, .ref 4 0, .ref 6 0]
def tobj (k : Nat) : Th := .obj 145 [.own k]
def trow (l : List Rw) : Th := .row 148 2 l.length (rowEl l)
def tabs (T : T4) : List (Nat × Th) := [(0, tobj 1), (1, trow T.a), (2, tobj 3), (3, trow T.b), (4, tobj 5), (5, trow T.c), (6, tobj 7), (7, trow T.d)]
def mTN : Mo
  | [], [] => some (.ref 0 0, tab0 [], [])
  | _, _ => none
def mDoV (l : List Rw) (v : ByteArray) (e : Int) (l2 : List Rw) : Mo
  | [.ref 0 0, .d (.agg [.raw (.int .i64 k), .raw (.string key), .raw (.string val), .raw (.string old)])], [(0, .obj T [.own 1]), (1, .row R 2 n el)] => some (.tup [.d (.raw (.string v)), .d (.raw (.int .i64 e))], tab2 l2, [T = 145, R = 148, n = l.length, el = rowEl l, Tidy l ∧ v = (doM l k key val old).1 ∧ e = (doM l k key val old).2.1 ∧ l2 = (doM l k key val old).2.2])
  | _, _ => none
def mPlcC (c : Int) : Mo
  | [.d (.raw (.string key))], [] => some (.d (.raw (.int .i64 c)), [], [plc key = c ∧ key.size ≤ 1073741824])
  | _, _ => none
def A0 : Orc := (Orc.none gz0).add 58 false mTN
def A1 (c : Int) (l : List Rw) (v : ByteArray) (e : Int) (l2 : List Rw) : Orc := ((Orc.none Go.Bla.gl).add 34 false (mPlcC c)).add 59 false (mDoV l v e l2)
def pickT (T : T4) (c : Int) : List Rw := if c = 0 then T.a else if c = 1 then T.b else if c = 2 then T.c else T.d
def putT (T : T4) (c : Int) (l : List Rw) : T4 := if c = 0 then ⟨l, T.b, T.c, T.d⟩ else if c = 1 then ⟨T.a, l, T.c, T.d⟩ else if c = 2 then ⟨T.a, T.b, l, T.d⟩ else ⟨T.a, T.b, T.c, l⟩
def resM (T : T4) (o : OpT) : ByteArray × Int × List Rw := doM (pickT T (plc o.2.1)) o.1 o.2.1 o.2.2.1 o.2.2.2
def tellM (T : T4) (o : OpT) : An := ((resM T o).2.1, (resM T o).1)
def nextT (T : T4) (o : OpT) : T4 := putT T (plc o.2.1) (resM T o).2.2
structure TidyT (T : T4) : Prop where
  a : Tidy T.a
  b : Tidy T.b
  c : Tidy T.c
  d : Tidy T.d
def tabsU (T : T4) : List (Nat × Th) := [(0, tobj 8), (2, tobj 9), (4, tobj 10), (6, tobj 11), (8, trow T.a), (9, trow T.b), (10, trow T.c), (11, trow T.d)]
def T0 : T4 := ⟨[], [], [], []⟩
def mNT : Mo
  | [], [] => some (rfs, tabs T0, [])
  | _, _ => none
def mTell (T T' : T4) (e : Int) (v : ByteArray) : Mo
  | [.agg [.ref 0 0, .ref 2 0, .ref 4 0, .ref 6 0], .d (.agg [.raw (.int .i64 k), .raw (.string key), .raw (.string val), .raw (.string old)])], [(0, .obj C1 [.own 1]), (1, .row R1 2 n1 l1), (2, .obj C2 [.own 3]), (3, .row R2 2 n2 l2), (4, .obj C3 [.own 5]), (5, .row R3 2 n3 l3), (6, .obj C4 [.own 7]), (7, .row R4 2 n4 l4)] =>
    some (.d (.agg [.raw (.int .i64 e), .raw (.string v)]), tabsU T', [(C1 == 145 && C2 == C1 && C3 == C1 && C4 == C1 && R1 == 148 && R2 == R1 && R3 == R1 && R4 == R1) = true, n1 = T.a.length, l1 = rowEl T.a, n2 = T.b.length, l2 = rowEl T.b, n3 = T.c.length, l3 = rowEl T.c, n4 = T.d.length, l4 = rowEl T.d, TidyT T ∧ (e, v) = tellM T (k, key, val, old) ∧ T' = nextT T (k, key, val, old) ∧ key.size ≤ 1073741824])
  | _, _ => none
def gB : Nat → Option (List D) := Go.Bla.gl
def A2 (T T' : T4) (e : Int) (v : ByteArray) : Orc := ((Orc.none Go.Bla.gl).add 50 false mNT).add 51 false (mTell T T' e v)
def nmD (c n : Int) : D := .agg [.raw (.int .i64 c), .raw (.int .i64 n)]
def hasC (L : List Ca) (d : D) : Bool := L.any fun c => keyEq d (.raw (.int .i64 c.cl))
def getC (L : List Ca) (d : D) : Ca := (L.find? fun c => keyEq d (.raw (.int .i64 c.cl))).getD noCa
def lenC : List Ca → Nat
  | [] => 0
  | c :: r => match hasC r (.raw (.int .i64 c.cl)) with | true => lenC r | false => lenC r + 1
def lastMp (L : List Ca) : MapD := ⟨3, fun d => hasC L d, fun d => caD (getC L d), lenC L⟩
def hasN (L : List Ca) (d : D) : Bool := L.any fun c => keyEq d (nmD c.cl c.n)
def getN (L : List Ca) (d : D) : Ca := (L.find? fun c => keyEq d (nmD c.cl c.n)).getD noCa
def lenN : List Ca → Nat
  | [] => 0
  | c :: r => match hasN r (nmD c.cl c.n) with | true => lenN r | false => lenN r + 1
def knowMp (L : List Ca) : MapD := ⟨95, fun d => hasN L d, fun d => caD (getN L d), lenN L⟩
def hasS (L : List Pt) (d : D) : Bool := L.any fun c => keyEq d (nmD c.cl c.n)
def lenS : List Pt → Nat
  | [] => 0
  | c :: r => match hasS r (nmD c.cl c.n) with | true => lenS r | false => lenS r + 1
def seenMp (L : List Pt) : MapD := ⟨95, fun d => hasS L d, fun _ => .raw (.bool true), lenS L⟩
def mChk : Mo
  | [.d (.agg [.raw (.int .i64 k), .raw (.string key), .raw (.string val), .raw (.string old)])], [] => some (.d (.raw (.int .i64 (checkM k key val old))), [], [])
  | _, _ => none
def mNmC : Mo
  | [.d (.agg [.raw (.int .i64 c), .raw (.int .i64 n), .raw (.int .i64 k), .raw (.string key), .raw (.string val), .raw (.string old), .raw (.int .i64 fr), .raw (.int .i64 to), .raw (.int .i64 er), .raw (.string v)])], [] => some (.d (nmD c n), [], [])
  | _, _ => none
def mNmP : Mo
  | [.d (.agg [.raw (.int .i64 m), .raw (.int .i64 c), .raw (.int .i64 n), .raw (.int .i64 er), .raw (.string v)])], [] => some (.d (nmD c n), [], [])
  | _, _ => none
def B0 : Orc := (Orc.none gz0).add 23 false mChk
def B1 : Orc := ((Orc.none gz0).add 41 false mNmC).add 55 false mNmP
def B2 (T T' : T4) (e : Int) (v : ByteArray) : Orc := (A2 T T' e v).add 55 false mNmP
end Go.Prf
