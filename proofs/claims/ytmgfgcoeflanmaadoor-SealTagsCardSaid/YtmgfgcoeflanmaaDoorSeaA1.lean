/-
  Contracts of given functions, or plain laws that they need. No condition.
-/
import Derived.Test.YtmgfgcoeflanmaaDoorBlaG
import Derived.Test.YtmgfgcoeflanmaaDoorNamA1
import Derived.Test.YtmgfgcoeflanmaaDoorBla9
namespace Go.Sea
open Go Go.Eng Go.Proofs Go.Nest Go.RowKit Go.Memo
set_option linter.unusedVariables false
set_option linter.unusedSimpArgs false
set_option maxRecDepth 100000
set_option maxHeartbeats 4000000
theorem blaS (m : Int) (e1 e2 : Value) : ∀ g cs, Go.Bla.gl g = some cs → glS m e1 e2 g = some cs := fun g cs h => by unfold glS; rw [h]
theorem uS (m : Int) (e1 e2 : Value) : ∀ g cs, glU m e1 e2 g = some cs → glS m e1 e2 g = some cs := fun g cs h => by
  have e : Go.Bla.gl g = none := by
    unfold glU at h
    split at h
    · rename_i hg; subst hg; rfl
    · split at h
      · rename_i hg; subst hg; rfl
      · split at h
        · rename_i hg; subst hg; rfl
        · split at h
          · rename_i hg; subst hg; rfl
          · cases h
  unfold glS; rw [e]; exact h
theorem blaT : ∀ g cs, Go.Bla.gl g = some cs → glT g = some cs := fun g cs h => by unfold glT; rw [h]
theorem pT : ∀ g cs, glP g = some cs → glT g = some cs := fun g cs h => by
  have e : Go.Bla.gl g = none := by
    unfold glP at h
    split at h
    · rename_i hg; subst hg; rfl
    · cases h
  unfold glT; rw [e]; exact h
theorem tS (m : Int) (e1 e2 : Value) : ∀ g cs, glT g = some cs → glS m e1 e2 g = some cs := fun g cs h => by
  unfold glT at h
  split at h
  · rename_i hx; cases h; exact blaS m e1 e2 g _ hx
  · exact uS m e1 e2 g cs (pU m e1 e2 g cs h)
theorem mSum_ok : MoOK Tryd.prog Go.Bla.gl 34 mSum := fun args H ret H' cs h hc => by
  unfold mSum at h
  split at h
  · cases h; exact Go.Bla.sum_ok _ _
  · cases h
theorem name_e (g n : Int) : (nameM g n).2 = if isM g n = true then 0 else 1 := by unfold nameM; split <;> rfl
theorem A0_ok (q : ByteArray) (e : Int) : OrcOK Tryd.prog (A0 q e) := ((OrcOK.none glT).add _ false _ ((mNameP_ok q e).up pT)).add _ false _ (mSum_ok.up blaT)
theorem stamp_ok (seed : ByteArray) (hs : seed.size ≤ 32) (g n : Int) (t : ByteArray) : Eng.Spec Tryd.prog glT 24 [.ref 0 0, .d (.agg [.raw (.int .i64 g), .raw (.int .i64 n)]), .d (.raw (.string t))] (ring seed) (.tup [.d (.agg (cells16 (zst seed g n t))), .d (.raw (.int .i64 (nameM g n).2))]) (ring seed) := by
  refine spec_fn Tryd.func24 rfl fun {w N E a} hsim => ?_
  obtain ⟨q, hq⟩ : ∃ q, q = (nameM g n).1 := ⟨_, rfl⟩
  obtain ⟨e, he⟩ : ∃ e, e = (nameM g n).2 := ⟨_, rfl⟩
  have hn := name_e g n
  rw [← he] at hn
  have nt : (e != (0 : Int)) = true → isM g n = false := fun h => by cases hi : isM g n with
    | false => rfl
    | true => rw [hi, if_pos rfl] at hn; rw [hn] at h; exact absurd h (by decide)
  have nf : (e != (0 : Int)) = false → isM g n = true := fun h => by cases hi : isM g n with
    | true => rfl
    | false => rw [hi, if_neg (by decide)] at hn; rw [hn] at h; exact absurd h (by decide)
  have e1' : (e != (0 : Int)) = true → e = 1 := fun h => by rw [nt h] at hn; simpa using hn
  have e0' : (e != (0 : Int)) = false → e = 0 := fun h => by simpa using h
  have hz : (sumB (sumB seed q) t).size = 32 := by rw [hq]; exact tagS_size hs g n t
  have hx : ((sumB (sumB seed q) t).extract 0 16).size = 16 := by rw [ByteArray.size_extract, hz]; rfl
  have r1 : (e != (0 : Int)) = true → zst seed g n t = zer16 := fun h => by unfold zst; rw [nt h]; rfl
  have r0 : (e != (0 : Int)) = false → zst seed g n t = (sumB (sumB seed q) t).extract 0 16 := fun h => by unfold zst tag16 tagS keyB; rw [nf h, if_pos rfl, hq]
  rcases Bool.eq_false_or_eq_true (e != (0 : Int)) with hb1 | hb1
  · skip
    exact go_ret (A0_ok q e) rfl rfl Tryd.func24 (sr' := ⟨1, [.tup [.d (.agg [.raw (.int .u8 ((0 : Int))), .raw (.int .u8 ((0 : Int))), .raw (.int .u8 ((0 : Int))), .raw (.int .u8 ((0 : Int))), .raw (.int .u8 ((0 : Int))), .raw (.int .u8 ((0 : Int))), .raw (.int .u8 ((0 : Int))), .raw (.int .u8 ((0 : Int))), .raw (.int .u8 ((0 : Int))), .raw (.int .u8 ((0 : Int))), .raw (.int .u8 ((0 : Int))), .raw (.int .u8 ((0 : Int))), .raw (.int .u8 ((0 : Int))), .raw (.int .u8 ((0 : Int))), .raw (.int .u8 ((0 : Int))), .raw (.int .u8 ((0 : Int)))]), .d (.raw (.int .i64 (e)))]], [(0, .obj 57 [.d (.raw (.string (seed)))])]⟩) (cs := [(q = (nameM g n).fst), (e = (nameM g n).snd), ((e != (0 : Int)) = true)]) [true] true (by kernel_rfl) (by kernel_rfl) ⟨(by first | rfl | exact hq | exact he | omega), (by first | rfl | exact hq | exact he | omega), hb1, trivial⟩ (by first | (rw [r1 hb1, ← he]; rfl) | (rw [r0 hb1, ← he, e0' hb1]; rfl)) hsim
  · skip
    exact go_ret (A0_ok q e) rfl rfl Tryd.func24 (sr' := ⟨1, [.tup [.d (.agg [.raw (.int .u8 (byteAt ((sumB (sumB seed q) t).extract (0 : Nat) (16 : Nat)) (0 : Nat))), .raw (.int .u8 (byteAt ((sumB (sumB seed q) t).extract (0 : Nat) (16 : Nat)) (1 : Nat))), .raw (.int .u8 (byteAt ((sumB (sumB seed q) t).extract (0 : Nat) (16 : Nat)) (2 : Nat))), .raw (.int .u8 (byteAt ((sumB (sumB seed q) t).extract (0 : Nat) (16 : Nat)) (3 : Nat))), .raw (.int .u8 (byteAt ((sumB (sumB seed q) t).extract (0 : Nat) (16 : Nat)) (4 : Nat))), .raw (.int .u8 (byteAt ((sumB (sumB seed q) t).extract (0 : Nat) (16 : Nat)) (5 : Nat))), .raw (.int .u8 (byteAt ((sumB (sumB seed q) t).extract (0 : Nat) (16 : Nat)) (6 : Nat))), .raw (.int .u8 (byteAt ((sumB (sumB seed q) t).extract (0 : Nat) (16 : Nat)) (7 : Nat))), .raw (.int .u8 (byteAt ((sumB (sumB seed q) t).extract (0 : Nat) (16 : Nat)) (8 : Nat))), .raw (.int .u8 (byteAt ((sumB (sumB seed q) t).extract (0 : Nat) (16 : Nat)) (9 : Nat))), .raw (.int .u8 (byteAt ((sumB (sumB seed q) t).extract (0 : Nat) (16 : Nat)) (10 : Nat))), .raw (.int .u8 (byteAt ((sumB (sumB seed q) t).extract (0 : Nat) (16 : Nat)) (11 : Nat))), .raw (.int .u8 (byteAt ((sumB (sumB seed q) t).extract (0 : Nat) (16 : Nat)) (12 : Nat))), .raw (.int .u8 (byteAt ((sumB (sumB seed q) t).extract (0 : Nat) (16 : Nat)) (13 : Nat))), .raw (.int .u8 (byteAt ((sumB (sumB seed q) t).extract (0 : Nat) (16 : Nat)) (14 : Nat))), .raw (.int .u8 (byteAt ((sumB (sumB seed q) t).extract (0 : Nat) (16 : Nat)) (15 : Nat)))]), .d (.raw (.int .i64 ((0 : Int))))]], [(0, .obj 57 [.d (.raw (.string (seed)))])]⟩) (cs := [(q = (nameM g n).fst), (e = (nameM g n).snd), ((e != (0 : Int)) = false), ((0 : Int) ≤ (0 : Int) ∧ (0 : Int) ≤ (16 : Int) ∧ (16 : Int) ≤ (↑(sumB (sumB seed q) t).size : Int)), (((sumB (sumB seed q) t).extract (0 : Nat) (16 : Nat)).size ≤ (9223372036854775807 : Nat)), ((16 : Nat) ≤ ((sumB (sumB seed q) t).extract (0 : Nat) (16 : Nat)).size)]) [false] true (by kernel_rfl) (by kernel_rfl) ⟨(by first | rfl | exact hq | exact he | omega), (by first | rfl | exact hq | exact he | omega), hb1, (by first | rfl | exact hq | exact he | omega), (by first | rfl | exact hq | exact he | omega), (by first | rfl | exact hq | exact he | omega), trivial⟩ (by first | (rw [r1 hb1, ← he]; rfl) | (rw [r0 hb1, ← he, e0' hb1]; rfl)) hsim
theorem stampN_ok (g n : Int) (t : ByteArray) : Eng.Spec Tryd.prog glT 24 [.d (.raw (.pointer none)), .d (.agg [.raw (.int .i64 g), .raw (.int .i64 n)]), .d (.raw (.string t))] [] (.tup [.d (.agg (cells16 zer16)), .d (.raw (.int .i64 (if isM g n = true then 7 else 1)))]) [] := by
  refine spec_fn Tryd.func24 rfl fun {w N E a} hsim => ?_
  obtain ⟨q, hq⟩ : ∃ q, q = (nameM g n).1 := ⟨_, rfl⟩
  obtain ⟨e, he⟩ : ∃ e, e = (nameM g n).2 := ⟨_, rfl⟩
  have hn := name_e g n
  rw [← he] at hn
  have nt : (e != (0 : Int)) = true → isM g n = false := fun h => by cases hi : isM g n with
    | false => rfl
    | true => rw [hi, if_pos rfl] at hn; rw [hn] at h; exact absurd h (by decide)
  have nf : (e != (0 : Int)) = false → isM g n = true := fun h => by cases hi : isM g n with
    | true => rfl
    | false => rw [hi, if_neg (by decide)] at hn; rw [hn] at h; exact absurd h (by decide)
  have e1' : (e != (0 : Int)) = true → e = 1 := fun h => by rw [nt h] at hn; simpa using hn
  have e0' : (e != (0 : Int)) = false → e = 0 := fun h => by simpa using h
  rcases Bool.eq_false_or_eq_true (e != (0 : Int)) with hb1 | hb1
  · skip
    exact go_ret (A0_ok q e) rfl rfl Tryd.func24 (sr' := ⟨0, [.tup [.d (.agg [.raw (.int .u8 ((0 : Int))), .raw (.int .u8 ((0 : Int))), .raw (.int .u8 ((0 : Int))), .raw (.int .u8 ((0 : Int))), .raw (.int .u8 ((0 : Int))), .raw (.int .u8 ((0 : Int))), .raw (.int .u8 ((0 : Int))), .raw (.int .u8 ((0 : Int))), .raw (.int .u8 ((0 : Int))), .raw (.int .u8 ((0 : Int))), .raw (.int .u8 ((0 : Int))), .raw (.int .u8 ((0 : Int))), .raw (.int .u8 ((0 : Int))), .raw (.int .u8 ((0 : Int))), .raw (.int .u8 ((0 : Int))), .raw (.int .u8 ((0 : Int)))]), .d (.raw (.int .i64 (e)))]], []⟩) (cs := [(q = (nameM g n).fst), (e = (nameM g n).snd), ((e != (0 : Int)) = true)]) [true] true (by kernel_rfl) (by kernel_rfl) ⟨(by first | rfl | exact hq | exact he | omega), (by first | rfl | exact hq | exact he | omega), hb1, trivial⟩ (by first | (rw [nt hb1, e1' hb1]; rfl) | (rw [nf hb1]; rfl)) hsim
  · skip
    exact go_ret (A0_ok q e) rfl rfl Tryd.func24 (sr' := ⟨0, [.tup [.d (.agg [.raw (.int .u8 ((0 : Int))), .raw (.int .u8 ((0 : Int))), .raw (.int .u8 ((0 : Int))), .raw (.int .u8 ((0 : Int))), .raw (.int .u8 ((0 : Int))), .raw (.int .u8 ((0 : Int))), .raw (.int .u8 ((0 : Int))), .raw (.int .u8 ((0 : Int))), .raw (.int .u8 ((0 : Int))), .raw (.int .u8 ((0 : Int))), .raw (.int .u8 ((0 : Int))), .raw (.int .u8 ((0 : Int))), .raw (.int .u8 ((0 : Int))), .raw (.int .u8 ((0 : Int))), .raw (.int .u8 ((0 : Int))), .raw (.int .u8 ((0 : Int)))]), .d (.raw (.int .i64 ((7 : Int))))]], []⟩) (cs := [(q = (nameM g n).fst), (e = (nameM g n).snd), ((e != (0 : Int)) = false), ((true) = true)]) [false, true] true (by kernel_rfl) (by kernel_rfl) ⟨(by first | rfl | exact hq | exact he | omega), (by first | rfl | exact hq | exact he | omega), hb1, rfl, trivial⟩ (by first | (rw [nt hb1, e1' hb1]; rfl) | (rw [nf hb1]; rfl)) hsim
theorem mStamp_ok (z : ByteArray) (e : Int) : MoOK Tryd.prog glT 24 (mStamp z e) := fun args H ret H' cs h hc => by
  unfold mStamp at h
  split at h
  · cases h; obtain ⟨rfl, hs, rfl, rfl, -⟩ := hc; exact stamp_ok _ hs _ _ _
  · cases h; obtain ⟨rfl, rfl, -⟩ := hc; exact stampN_ok _ _ _
  · cases h
theorem A1_ok (z : ByteArray) (e : Int) : OrcOK Tryd.prog (A1 z e) := (OrcOK.none glT).add _ false _ (mStamp_ok z e)
theorem isI16 (z : ByteArray) : ∀ i, i < 16 → isI IntKind.u8 (segD false 1 (cells16 z) i) = true := fun i hi => by
  have hc : i = 0 ∨ i = 1 ∨ i = 2 ∨ i = 3 ∨ i = 4 ∨ i = 5 ∨ i = 6 ∨ i = 7 ∨ i = 8 ∨ i = 9 ∨ i = 10 ∨ i = 11 ∨ i = 12 ∨ i = 13 ∨ i = 14 ∨ i = 15 := by omega
  rcases hc with rfl | rfl | rfl | rfl | rfl | rfl | rfl | rfl | rfl | rfl | rfl | rfl | rfl | rfl | rfl | rfl <;> rfl
theorem tag_ok (seed : ByteArray) (hs : seed.size ≤ 32) (g n : Int) (t : ByteArray) : Eng.Spec Tryd.prog glT 10 [.ref 0 0, .d (.agg [.raw (.int .i64 g), .raw (.int .i64 n)]), .d (.raw (.string t))] (ring seed) (.tup [.d (.raw (.string (tagB seed g n t))), .d (.raw (.int .i64 (nameM g n).2))]) (ring seed) := by
  refine spec_fn Tryd.func10 rfl fun {w N E a} hsim => ?_
  obtain ⟨z, hz⟩ : ∃ z, z = zst seed g n t := ⟨_, rfl⟩
  obtain ⟨e, he⟩ : ∃ e, e = (nameM g n).2 := ⟨_, rfl⟩
  have hn := name_e g n
  rw [← he] at hn
  have nt : (e != (0 : Int)) = true → isM g n = false := fun h => by cases hi : isM g n with
    | false => rfl
    | true => rw [hi, if_pos rfl] at hn; rw [hn] at h; exact absurd h (by decide)
  have nf : (e != (0 : Int)) = false → isM g n = true := fun h => by cases hi : isM g n with
    | true => rfl
    | false => rw [hi, if_neg (by decide)] at hn; rw [hn] at h; exact absurd h (by decide)
  have e1' : (e != (0 : Int)) = true → e = 1 := fun h => by rw [nt h] at hn; simpa using hn
  have e0' : (e != (0 : Int)) = false → e = 0 := fun h => by simpa using h
  have hz16 : z.size = 16 := by rw [hz]; exact zst_size hs g n t
  have r1 : (e != (0 : Int)) = true → tagB seed g n t = ByteArray.mk #[] := fun h => by unfold tagB; rw [nt h]; rfl
  have r0 : (e != (0 : Int)) = false → tagB seed g n t = bytesOf 16 (segD false 1 (cells16 z)) := fun h => by rw [bytes16 hz16, hz]; unfold tagB zst; rw [nf h]; rfl
  rcases Bool.eq_false_or_eq_true (e != (0 : Int)) with hb1 | hb1
  · skip
    exact go_ret (A1_ok z e) rfl rfl Tryd.func10 (sr' := ⟨1, [.tup [.d (.raw (.string (ByteArray.mk #[]))), .d (.raw (.int .i64 (e)))]], [(0, .obj 57 [.d (.raw (.string (seed)))])]⟩) (cs := [((57 : Nat) = (57 : Nat)), (seed.size ≤ (32 : Nat)), (z = zst seed g n t), (e = (nameM g n).snd), ((e != (0 : Int)) = true)]) [true] true (by kernel_rfl) (by kernel_rfl) ⟨(by first | rfl | exact hz | exact he | exact hs | exact isI16 z | decide), (by first | rfl | exact hz | exact he | exact hs | exact isI16 z | decide), (by first | rfl | exact hz | exact he | exact hs | exact isI16 z | decide), (by first | rfl | exact hz | exact he | exact hs | exact isI16 z | decide), hb1, trivial⟩ (by first | (rw [r1 hb1, ← he]; rfl) | (rw [r0 hb1, ← he, e0' hb1]; rfl)) hsim
  · skip
    exact go_ret (A1_ok z e) rfl rfl Tryd.func10 (sr' := ⟨1, [.tup [.d (.raw (.string (bytesOf (16 : Nat) (segD false (1 : Nat) [D.raw (Value.int IntKind.u8 (byteAt z (0 : Nat))), D.raw (Value.int IntKind.u8 (byteAt z (1 : Nat))), D.raw (Value.int IntKind.u8 (byteAt z (2 : Nat))), D.raw (Value.int IntKind.u8 (byteAt z (3 : Nat))), D.raw (Value.int IntKind.u8 (byteAt z (4 : Nat))), D.raw (Value.int IntKind.u8 (byteAt z (5 : Nat))), D.raw (Value.int IntKind.u8 (byteAt z (6 : Nat))), D.raw (Value.int IntKind.u8 (byteAt z (7 : Nat))), D.raw (Value.int IntKind.u8 (byteAt z (8 : Nat))), D.raw (Value.int IntKind.u8 (byteAt z (9 : Nat))), D.raw (Value.int IntKind.u8 (byteAt z (10 : Nat))), D.raw (Value.int IntKind.u8 (byteAt z (11 : Nat))), D.raw (Value.int IntKind.u8 (byteAt z (12 : Nat))), D.raw (Value.int IntKind.u8 (byteAt z (13 : Nat))), D.raw (Value.int IntKind.u8 (byteAt z (14 : Nat))), D.raw (Value.int IntKind.u8 (byteAt z (15 : Nat)))])))), .d (.raw (.int .i64 ((0 : Int))))]], [(0, .obj 57 [.d (.raw (.string (seed)))])]⟩) (cs := [((57 : Nat) = (57 : Nat)), (seed.size ≤ (32 : Nat)), (z = zst seed g n t), (e = (nameM g n).snd), ((e != (0 : Int)) = false), ((0 : Int) ≤ (0 : Int) ∧ (0 : Int) ≤ (16 : Int) ∧ (16 : Int) ≤ (16 : Int) ∧ ((0 : Int) = (0 : Int) ∨ (0 : Int) < (16 : Int))), (∀ (i : Nat), i < (16 : Nat) → isI IntKind.u8 (segD false (1 : Nat) [D.raw (Value.int IntKind.u8 (byteAt z (0 : Nat))), D.raw (Value.int IntKind.u8 (byteAt z (1 : Nat))), D.raw (Value.int IntKind.u8 (byteAt z (2 : Nat))), D.raw (Value.int IntKind.u8 (byteAt z (3 : Nat))), D.raw (Value.int IntKind.u8 (byteAt z (4 : Nat))), D.raw (Value.int IntKind.u8 (byteAt z (5 : Nat))), D.raw (Value.int IntKind.u8 (byteAt z (6 : Nat))), D.raw (Value.int IntKind.u8 (byteAt z (7 : Nat))), D.raw (Value.int IntKind.u8 (byteAt z (8 : Nat))), D.raw (Value.int IntKind.u8 (byteAt z (9 : Nat))), D.raw (Value.int IntKind.u8 (byteAt z (10 : Nat))), D.raw (Value.int IntKind.u8 (byteAt z (11 : Nat))), D.raw (Value.int IntKind.u8 (byteAt z (12 : Nat))), D.raw (Value.int IntKind.u8 (byteAt z (13 : Nat))), D.raw (Value.int IntKind.u8 (byteAt z (14 : Nat))), D.raw (Value.int IntKind.u8 (byteAt z (15 : Nat)))] i) = true)]) [false] true (by kernel_rfl) (by kernel_rfl) ⟨(by first | rfl | exact hz | exact he | exact hs | exact isI16 z | decide), (by first | rfl | exact hz | exact he | exact hs | exact isI16 z | decide), (by first | rfl | exact hz | exact he | exact hs | exact isI16 z | decide), (by first | rfl | exact hz | exact he | exact hs | exact isI16 z | decide), hb1, (by first | rfl | exact hz | exact he | exact hs | exact isI16 z | decide), (by first | rfl | exact hz | exact he | exact hs | exact isI16 z | decide), trivial⟩ (by first | (rw [r1 hb1, ← he]; rfl) | (rw [r0 hb1, ← he, e0' hb1]; rfl)) hsim
theorem tagN_ok (g n : Int) (t : ByteArray) : Eng.Spec Tryd.prog glT 10 [.d (.raw (.pointer none)), .d (.agg [.raw (.int .i64 g), .raw (.int .i64 n)]), .d (.raw (.string t))] [] (.tup [.d (.raw (.string ByteArray.empty)), .d (.raw (.int .i64 (if isM g n = true then 7 else 1)))]) [] := by
  refine spec_fn Tryd.func10 rfl fun {w N E a} hsim => ?_
  obtain ⟨z, hz⟩ : ∃ z, z = zer16 := ⟨_, rfl⟩
  obtain ⟨e, he⟩ : ∃ e, e = if isM g n = true then (7 : Int) else 1 := ⟨_, rfl⟩
  have hne : (e != (0 : Int)) = false → False := fun h => by rw [he] at h; split at h <;> exact absurd h (by decide)
  rcases Bool.eq_false_or_eq_true (e != (0 : Int)) with hb1 | hb1
  · skip
    exact go_ret (A1_ok z e) rfl rfl Tryd.func10 (sr' := ⟨0, [.tup [.d (.raw (.string (ByteArray.mk #[]))), .d (.raw (.int .i64 (e)))]], []⟩) (cs := [(z = zer16), (e = if isM g n = true then (7 : Int) else (1 : Int)), ((e != (0 : Int)) = true)]) [true] true (by kernel_rfl) (by kernel_rfl) ⟨(by first | rfl | exact hz | exact he | exact isI16 z | decide), (by first | rfl | exact hz | exact he | exact isI16 z | decide), hb1, trivial⟩ (by first | exact False.elim (hne hb1) | (rw [← he]; rfl)) hsim
  · skip
    exact go_ret (A1_ok z e) rfl rfl Tryd.func10 (sr' := ⟨0, [.tup [.d (.raw (.string (bytesOf (16 : Nat) (segD false (1 : Nat) [D.raw (Value.int IntKind.u8 (byteAt z (0 : Nat))), D.raw (Value.int IntKind.u8 (byteAt z (1 : Nat))), D.raw (Value.int IntKind.u8 (byteAt z (2 : Nat))), D.raw (Value.int IntKind.u8 (byteAt z (3 : Nat))), D.raw (Value.int IntKind.u8 (byteAt z (4 : Nat))), D.raw (Value.int IntKind.u8 (byteAt z (5 : Nat))), D.raw (Value.int IntKind.u8 (byteAt z (6 : Nat))), D.raw (Value.int IntKind.u8 (byteAt z (7 : Nat))), D.raw (Value.int IntKind.u8 (byteAt z (8 : Nat))), D.raw (Value.int IntKind.u8 (byteAt z (9 : Nat))), D.raw (Value.int IntKind.u8 (byteAt z (10 : Nat))), D.raw (Value.int IntKind.u8 (byteAt z (11 : Nat))), D.raw (Value.int IntKind.u8 (byteAt z (12 : Nat))), D.raw (Value.int IntKind.u8 (byteAt z (13 : Nat))), D.raw (Value.int IntKind.u8 (byteAt z (14 : Nat))), D.raw (Value.int IntKind.u8 (byteAt z (15 : Nat)))])))), .d (.raw (.int .i64 ((0 : Int))))]], []⟩) (cs := [(z = zer16), (e = if isM g n = true then (7 : Int) else (1 : Int)), ((e != (0 : Int)) = false), ((0 : Int) ≤ (0 : Int) ∧ (0 : Int) ≤ (16 : Int) ∧ (16 : Int) ≤ (16 : Int) ∧ ((0 : Int) = (0 : Int) ∨ (0 : Int) < (16 : Int))), (∀ (i : Nat), i < (16 : Nat) → isI IntKind.u8 (segD false (1 : Nat) [D.raw (Value.int IntKind.u8 (byteAt z (0 : Nat))), D.raw (Value.int IntKind.u8 (byteAt z (1 : Nat))), D.raw (Value.int IntKind.u8 (byteAt z (2 : Nat))), D.raw (Value.int IntKind.u8 (byteAt z (3 : Nat))), D.raw (Value.int IntKind.u8 (byteAt z (4 : Nat))), D.raw (Value.int IntKind.u8 (byteAt z (5 : Nat))), D.raw (Value.int IntKind.u8 (byteAt z (6 : Nat))), D.raw (Value.int IntKind.u8 (byteAt z (7 : Nat))), D.raw (Value.int IntKind.u8 (byteAt z (8 : Nat))), D.raw (Value.int IntKind.u8 (byteAt z (9 : Nat))), D.raw (Value.int IntKind.u8 (byteAt z (10 : Nat))), D.raw (Value.int IntKind.u8 (byteAt z (11 : Nat))), D.raw (Value.int IntKind.u8 (byteAt z (12 : Nat))), D.raw (Value.int IntKind.u8 (byteAt z (13 : Nat))), D.raw (Value.int IntKind.u8 (byteAt z (14 : Nat))), D.raw (Value.int IntKind.u8 (byteAt z (15 : Nat)))] i) = true)]) [false] true (by kernel_rfl) (by kernel_rfl) ⟨(by first | rfl | exact hz | exact he | exact isI16 z | decide), (by first | rfl | exact hz | exact he | exact isI16 z | decide), hb1, (by first | rfl | exact hz | exact he | exact isI16 z | decide), (by first | rfl | exact hz | exact he | exact isI16 z | decide), trivial⟩ (by first | exact False.elim (hne hb1) | (rw [← he]; rfl)) hsim
theorem mTag_ok (z : ByteArray) (e : Int) : MoOK Tryd.prog glT 10 (mTag z e) := fun args H ret H' cs h hc => by
  unfold mTag at h
  split at h
  · cases h; obtain ⟨rfl, hs, rfl, rfl, -⟩ := hc; exact tag_ok _ hs _ _ _
  · cases h; obtain ⟨rfl, rfl, -⟩ := hc; exact tagN_ok _ _ _
  · cases h
theorem A2_ok (z : ByteArray) (e : Int) : OrcOK Tryd.prog (A2 z e) := (OrcOK.none glT).add _ false _ (mTag_ok z e)
theorem sign_ok (seed : ByteArray) (hs : seed.size ≤ 32) (g n : Int) (t : ByteArray) : Eng.Spec Tryd.prog glT 12 [.ref 0 0, .d (.agg [.raw (.int .i64 g), .raw (.int .i64 n)]), .d (.raw (.string t))] (ring seed) (.tup [.d (.agg [.raw (.int .i64 (sgG g n)), .raw (.int .i64 (sgN g n)), .raw (.string (sgT g n t)), .raw (.string (tagB seed g n t))]), .d (.raw (.int .i64 (nameM g n).2))]) (ring seed) := by
  refine spec_fn Tryd.func12 rfl fun {w N E a} hsim => ?_
  obtain ⟨z, hz⟩ : ∃ z, z = tagB seed g n t := ⟨_, rfl⟩
  obtain ⟨e, he⟩ : ∃ e, e = (nameM g n).2 := ⟨_, rfl⟩
  have hn := name_e g n
  rw [← he] at hn
  have nt : (e != (0 : Int)) = true → isM g n = false := fun h => by cases hi : isM g n with
    | false => rfl
    | true => rw [hi, if_pos rfl] at hn; rw [hn] at h; exact absurd h (by decide)
  have nf : (e != (0 : Int)) = false → isM g n = true := fun h => by cases hi : isM g n with
    | true => rfl
    | false => rw [hi, if_neg (by decide)] at hn; rw [hn] at h; exact absurd h (by decide)
  have e1' : (e != (0 : Int)) = true → e = 1 := fun h => by rw [nt h] at hn; simpa using hn
  have e0' : (e != (0 : Int)) = false → e = 0 := fun h => by simpa using h
  have r1 : (e != (0 : Int)) = true → tagB seed g n t = ByteArray.mk #[] ∧ sgG g n = 0 ∧ sgN g n = 0 ∧ sgT g n t = ByteArray.mk #[] := fun h => by unfold tagB sgG sgN sgT; rw [nt h]; exact ⟨rfl, rfl, rfl, rfl⟩
  have r0 : (e != (0 : Int)) = false → sgG g n = g ∧ sgN g n = n ∧ sgT g n t = t := fun h => by unfold sgG sgN sgT; rw [nf h]; exact ⟨rfl, rfl, rfl⟩
  rcases Bool.eq_false_or_eq_true (e != (0 : Int)) with hb1 | hb1
  · skip
    exact go_ret (A2_ok z e) rfl rfl Tryd.func12 (sr' := ⟨1, [.tup [.d (.agg [.raw (.int .i64 ((0 : Int))), .raw (.int .i64 ((0 : Int))), .raw (.string (ByteArray.mk #[])), .raw (.string (ByteArray.mk #[]))]), .d (.raw (.int .i64 (e)))]], [(0, .obj 57 [.d (.raw (.string (seed)))])]⟩) (cs := [((57 : Nat) = (57 : Nat)), (seed.size ≤ (32 : Nat)), (z = tagB seed g n t), (e = (nameM g n).snd), ((e != (0 : Int)) = true)]) [true] true (by kernel_rfl) (by kernel_rfl) ⟨(by first | rfl | exact hz | exact he | exact hs | decide), (by first | rfl | exact hz | exact he | exact hs | decide), (by first | rfl | exact hz | exact he | exact hs | decide), (by first | rfl | exact hz | exact he | exact hs | decide), hb1, trivial⟩ (by first | (rw [(r1 hb1).1, (r1 hb1).2.1, (r1 hb1).2.2.1, (r1 hb1).2.2.2, ← he]; rfl) | (rw [(r0 hb1).1, (r0 hb1).2.1, (r0 hb1).2.2, ← he, e0' hb1, ← hz]; rfl)) hsim
  · skip
    exact go_ret (A2_ok z e) rfl rfl Tryd.func12 (sr' := ⟨1, [.tup [.d (.agg [.raw (.int .i64 (g)), .raw (.int .i64 (n)), .raw (.string (t)), .raw (.string (z))]), .d (.raw (.int .i64 ((0 : Int))))]], [(0, .obj 57 [.d (.raw (.string (seed)))])]⟩) (cs := [((57 : Nat) = (57 : Nat)), (seed.size ≤ (32 : Nat)), (z = tagB seed g n t), (e = (nameM g n).snd), ((e != (0 : Int)) = false)]) [false] true (by kernel_rfl) (by kernel_rfl) ⟨(by first | rfl | exact hz | exact he | exact hs | decide), (by first | rfl | exact hz | exact he | exact hs | decide), (by first | rfl | exact hz | exact he | exact hs | decide), (by first | rfl | exact hz | exact he | exact hs | decide), hb1, trivial⟩ (by first | (rw [(r1 hb1).1, (r1 hb1).2.1, (r1 hb1).2.2.1, (r1 hb1).2.2.2, ← he]; rfl) | (rw [(r0 hb1).1, (r0 hb1).2.1, (r0 hb1).2.2, ← he, e0' hb1, ← hz]; rfl)) hsim
theorem signN_ok (g n : Int) (t : ByteArray) : Eng.Spec Tryd.prog glT 12 [.d (.raw (.pointer none)), .d (.agg [.raw (.int .i64 g), .raw (.int .i64 n)]), .d (.raw (.string t))] [] (.tup [.d (.agg [.raw (.int .i64 0), .raw (.int .i64 0), .raw (.string ByteArray.empty), .raw (.string ByteArray.empty)]), .d (.raw (.int .i64 (if isM g n = true then 7 else 1)))]) [] := by
  refine spec_fn Tryd.func12 rfl fun {w N E a} hsim => ?_
  obtain ⟨z, hz⟩ : ∃ z, z = ByteArray.empty := ⟨_, rfl⟩
  obtain ⟨e, he⟩ : ∃ e, e = if isM g n = true then (7 : Int) else 1 := ⟨_, rfl⟩
  have hne : (e != (0 : Int)) = false → False := fun h => by rw [he] at h; split at h <;> exact absurd h (by decide)
  rcases Bool.eq_false_or_eq_true (e != (0 : Int)) with hb1 | hb1
  · skip
    exact go_ret (A2_ok z e) rfl rfl Tryd.func12 (sr' := ⟨0, [.tup [.d (.agg [.raw (.int .i64 ((0 : Int))), .raw (.int .i64 ((0 : Int))), .raw (.string (ByteArray.mk #[])), .raw (.string (ByteArray.mk #[]))]), .d (.raw (.int .i64 (e)))]], []⟩) (cs := [(z = ByteArray.empty), (e = if isM g n = true then (7 : Int) else (1 : Int)), ((e != (0 : Int)) = true)]) [true] true (by kernel_rfl) (by kernel_rfl) ⟨(by first | rfl | exact hz | exact he | decide), (by first | rfl | exact hz | exact he | decide), hb1, trivial⟩ (by first | exact False.elim (hne hb1) | (rw [← he]; rfl)) hsim
  · skip
    exact go_ret (A2_ok z e) rfl rfl Tryd.func12 (sr' := ⟨0, [.tup [.d (.agg [.raw (.int .i64 (g)), .raw (.int .i64 (n)), .raw (.string (t)), .raw (.string (z))]), .d (.raw (.int .i64 ((0 : Int))))]], []⟩) (cs := [(z = ByteArray.empty), (e = if isM g n = true then (7 : Int) else (1 : Int)), ((e != (0 : Int)) = false)]) [false] true (by kernel_rfl) (by kernel_rfl) ⟨(by first | rfl | exact hz | exact he | decide), (by first | rfl | exact hz | exact he | decide), hb1, trivial⟩ (by first | exact False.elim (hne hb1) | (rw [← he]; rfl)) hsim
theorem check_ok (seed : ByteArray) (hs : seed.size ≤ 32) (g n : Int) (t tag : ByteArray) : Eng.Spec Tryd.prog glT 13 [.ref 0 0, .d (.agg [.raw (.int .i64 g), .raw (.int .i64 n), .raw (.string t), .raw (.string tag)])] (ring seed) (.d (.raw (.int .i64 (chkS seed g n t tag)))) (ring seed) := by
  refine spec_fn Tryd.func13 rfl fun {w N E a} hsim => ?_
  obtain ⟨z, hz⟩ : ∃ z, z = zst seed g n t := ⟨_, rfl⟩
  obtain ⟨e, he⟩ : ∃ e, e = (nameM g n).2 := ⟨_, rfl⟩
  have hn := name_e g n
  rw [← he] at hn
  have nt : (e != (0 : Int)) = true → isM g n = false := fun h => by cases hi : isM g n with
    | false => rfl
    | true => rw [hi, if_pos rfl] at hn; rw [hn] at h; exact absurd h (by decide)
  have nf : (e != (0 : Int)) = false → isM g n = true := fun h => by cases hi : isM g n with
    | true => rfl
    | false => rw [hi, if_neg (by decide)] at hn; rw [hn] at h; exact absurd h (by decide)
  have e1' : (e != (0 : Int)) = true → e = 1 := fun h => by rw [nt h] at hn; simpa using hn
  have e0' : (e != (0 : Int)) = false → e = 0 := fun h => by simpa using h
  have hz16 : z.size = 16 := by rw [hz]; exact zst_size hs g n t
  have zt : isM g n = true → z = tag16 seed g n t := fun h => by rw [hz]; unfold zst; rw [h]; rfl
  have r1 : (e != (0 : Int)) = true → chkS seed g n t tag = e := fun h => by unfold chkS; rw [nt h, e1' h]; rfl
  have r2 : (e != (0 : Int)) = false → ((tag.size : Int) != (16 : Int)) = true → chkS seed g n t tag = 30 := fun h h' => by
    unfold chkS; rw [nf h, if_pos rfl, if_neg]; intro h2; rw [h2, tag16_size hs] at h'; exact absurd h' (by decide)
  have hs16 : ((tag.size : Int) != (16 : Int)) = false → tag.size = 16 := fun h => sz16 h
  have r3 : (e != (0 : Int)) = false → ((tag.size : Int) != (16 : Int)) = false → (!eqcs (vals16 tag) (vals16 z)) = true → chkS seed g n t tag = 30 := fun h h' h3 => by
    rw [eq16 (hs16 h') hz16] at h3
    unfold chkS; rw [nf h, if_pos rfl, if_neg]; intro h2; rw [zt (nf h), h2] at h3; simp at h3
  have r4 : (e != (0 : Int)) = false → ((tag.size : Int) != (16 : Int)) = false → (!eqcs (vals16 tag) (vals16 z)) = false → chkS seed g n t tag = 0 := fun h h' h3 => by
    rw [eq16 (hs16 h') hz16] at h3
    unfold chkS; rw [nf h, if_pos rfl, if_pos]; rw [← zt (nf h)]; simpa using h3
  rcases Bool.eq_false_or_eq_true (e != (0 : Int)) with hb1 | hb1
  · skip
    exact go_ret (A1_ok z e) rfl rfl Tryd.func13 (sr' := ⟨1, [.d (.raw (.int .i64 (e)))], [(0, .obj 57 [.d (.raw (.string (seed)))])]⟩) (cs := [((57 : Nat) = (57 : Nat)), (seed.size ≤ (32 : Nat)), (z = zst seed g n t), (e = (nameM g n).snd), ((e != (0 : Int)) = true)]) [true] true (by kernel_rfl) (by kernel_rfl) ⟨(by first | rfl | exact hz | exact he | exact hs | exact isI16 z | decide | (have := hs16 hb2; omega)), (by first | rfl | exact hz | exact he | exact hs | exact isI16 z | decide | (have := hs16 hb2; omega)), (by first | rfl | exact hz | exact he | exact hs | exact isI16 z | decide | (have := hs16 hb2; omega)), (by first | rfl | exact hz | exact he | exact hs | exact isI16 z | decide | (have := hs16 hb2; omega)), hb1, trivial⟩ (by first | (rw [r1 hb1]; rfl) | (rw [r2 hb1 hb2]; rfl) | (rw [r3 hb1 hb2 hb3]; rfl) | (rw [r4 hb1 hb2 hb3]; rfl)) hsim
  · skip
    rcases Bool.eq_false_or_eq_true ((↑tag.size : Int) != (16 : Int)) with hb2 | hb2
    · skip
      exact go_ret (A1_ok z e) rfl rfl Tryd.func13 (sr' := ⟨1, [.d (.raw (.int .i64 ((30 : Int))))], [(0, .obj 57 [.d (.raw (.string (seed)))])]⟩) (cs := [((57 : Nat) = (57 : Nat)), (seed.size ≤ (32 : Nat)), (z = zst seed g n t), (e = (nameM g n).snd), ((e != (0 : Int)) = false), (((↑tag.size : Int) != (16 : Int)) = true)]) [false, true] true (by kernel_rfl) (by kernel_rfl) ⟨(by first | rfl | exact hz | exact he | exact hs | exact isI16 z | decide | (have := hs16 hb2; omega)), (by first | rfl | exact hz | exact he | exact hs | exact isI16 z | decide | (have := hs16 hb2; omega)), (by first | rfl | exact hz | exact he | exact hs | exact isI16 z | decide | (have := hs16 hb2; omega)), (by first | rfl | exact hz | exact he | exact hs | exact isI16 z | decide | (have := hs16 hb2; omega)), hb1, hb2, trivial⟩ (by first | (rw [r1 hb1]; rfl) | (rw [r2 hb1 hb2]; rfl) | (rw [r3 hb1 hb2 hb3]; rfl) | (rw [r4 hb1 hb2 hb3]; rfl)) hsim
    · skip
      rcases Bool.eq_false_or_eq_true (!eqcs [Value.int IntKind.u8 (byteAt tag (0 : Nat)), Value.int IntKind.u8 (byteAt tag (1 : Nat)), Value.int IntKind.u8 (byteAt tag (2 : Nat)), Value.int IntKind.u8 (byteAt tag (3 : Nat)), Value.int IntKind.u8 (byteAt tag (4 : Nat)), Value.int IntKind.u8 (byteAt tag (5 : Nat)), Value.int IntKind.u8 (byteAt tag (6 : Nat)), Value.int IntKind.u8 (byteAt tag (7 : Nat)), Value.int IntKind.u8 (byteAt tag (8 : Nat)), Value.int IntKind.u8 (byteAt tag (9 : Nat)), Value.int IntKind.u8 (byteAt tag (10 : Nat)), Value.int IntKind.u8 (byteAt tag (11 : Nat)), Value.int IntKind.u8 (byteAt tag (12 : Nat)), Value.int IntKind.u8 (byteAt tag (13 : Nat)), Value.int IntKind.u8 (byteAt tag (14 : Nat)), Value.int IntKind.u8 (byteAt tag (15 : Nat))] [Value.int IntKind.u8 (byteAt z (0 : Nat)), Value.int IntKind.u8 (byteAt z (1 : Nat)), Value.int IntKind.u8 (byteAt z (2 : Nat)), Value.int IntKind.u8 (byteAt z (3 : Nat)), Value.int IntKind.u8 (byteAt z (4 : Nat)), Value.int IntKind.u8 (byteAt z (5 : Nat)), Value.int IntKind.u8 (byteAt z (6 : Nat)), Value.int IntKind.u8 (byteAt z (7 : Nat)), Value.int IntKind.u8 (byteAt z (8 : Nat)), Value.int IntKind.u8 (byteAt z (9 : Nat)), Value.int IntKind.u8 (byteAt z (10 : Nat)), Value.int IntKind.u8 (byteAt z (11 : Nat)), Value.int IntKind.u8 (byteAt z (12 : Nat)), Value.int IntKind.u8 (byteAt z (13 : Nat)), Value.int IntKind.u8 (byteAt z (14 : Nat)), Value.int IntKind.u8 (byteAt z (15 : Nat))]) with hb3 | hb3
      · skip
        exact go_ret (A1_ok z e) rfl rfl Tryd.func13 (sr' := ⟨1, [.d (.raw (.int .i64 ((30 : Int))))], [(0, .obj 57 [.d (.raw (.string (seed)))])]⟩) (cs := [((57 : Nat) = (57 : Nat)), (seed.size ≤ (32 : Nat)), (z = zst seed g n t), (e = (nameM g n).snd), ((e != (0 : Int)) = false), (((↑tag.size : Int) != (16 : Int)) = false), (tag.size ≤ (9223372036854775807 : Nat)), ((16 : Nat) ≤ tag.size), ((!eqcs [Value.int IntKind.u8 (byteAt tag (0 : Nat)), Value.int IntKind.u8 (byteAt tag (1 : Nat)), Value.int IntKind.u8 (byteAt tag (2 : Nat)), Value.int IntKind.u8 (byteAt tag (3 : Nat)), Value.int IntKind.u8 (byteAt tag (4 : Nat)), Value.int IntKind.u8 (byteAt tag (5 : Nat)), Value.int IntKind.u8 (byteAt tag (6 : Nat)), Value.int IntKind.u8 (byteAt tag (7 : Nat)), Value.int IntKind.u8 (byteAt tag (8 : Nat)), Value.int IntKind.u8 (byteAt tag (9 : Nat)), Value.int IntKind.u8 (byteAt tag (10 : Nat)), Value.int IntKind.u8 (byteAt tag (11 : Nat)), Value.int IntKind.u8 (byteAt tag (12 : Nat)), Value.int IntKind.u8 (byteAt tag (13 : Nat)), Value.int IntKind.u8 (byteAt tag (14 : Nat)), Value.int IntKind.u8 (byteAt tag (15 : Nat))] [Value.int IntKind.u8 (byteAt z (0 : Nat)), Value.int IntKind.u8 (byteAt z (1 : Nat)), Value.int IntKind.u8 (byteAt z (2 : Nat)), Value.int IntKind.u8 (byteAt z (3 : Nat)), Value.int IntKind.u8 (byteAt z (4 : Nat)), Value.int IntKind.u8 (byteAt z (5 : Nat)), Value.int IntKind.u8 (byteAt z (6 : Nat)), Value.int IntKind.u8 (byteAt z (7 : Nat)), Value.int IntKind.u8 (byteAt z (8 : Nat)), Value.int IntKind.u8 (byteAt z (9 : Nat)), Value.int IntKind.u8 (byteAt z (10 : Nat)), Value.int IntKind.u8 (byteAt z (11 : Nat)), Value.int IntKind.u8 (byteAt z (12 : Nat)), Value.int IntKind.u8 (byteAt z (13 : Nat)), Value.int IntKind.u8 (byteAt z (14 : Nat)), Value.int IntKind.u8 (byteAt z (15 : Nat))]) = true)]) [false, false, true] true (by kernel_rfl) (by kernel_rfl) ⟨(by first | rfl | exact hz | exact he | exact hs | exact isI16 z | decide | (have := hs16 hb2; omega)), (by first | rfl | exact hz | exact he | exact hs | exact isI16 z | decide | (have := hs16 hb2; omega)), (by first | rfl | exact hz | exact he | exact hs | exact isI16 z | decide | (have := hs16 hb2; omega)), (by first | rfl | exact hz | exact he | exact hs | exact isI16 z | decide | (have := hs16 hb2; omega)), hb1, hb2, (by first | rfl | exact hz | exact he | exact hs | exact isI16 z | decide | (have := hs16 hb2; omega)), (by first | rfl | exact hz | exact he | exact hs | exact isI16 z | decide | (have := hs16 hb2; omega)), hb3, trivial⟩ (by first | (rw [r1 hb1]; rfl) | (rw [r2 hb1 hb2]; rfl) | (rw [r3 hb1 hb2 hb3]; rfl) | (rw [r4 hb1 hb2 hb3]; rfl)) hsim
      · skip
        exact go_ret (A1_ok z e) rfl rfl Tryd.func13 (sr' := ⟨1, [.d (.raw (.int .i64 ((0 : Int))))], [(0, .obj 57 [.d (.raw (.string (seed)))])]⟩) (cs := [((57 : Nat) = (57 : Nat)), (seed.size ≤ (32 : Nat)), (z = zst seed g n t), (e = (nameM g n).snd), ((e != (0 : Int)) = false), (((↑tag.size : Int) != (16 : Int)) = false), (tag.size ≤ (9223372036854775807 : Nat)), ((16 : Nat) ≤ tag.size), ((!eqcs [Value.int IntKind.u8 (byteAt tag (0 : Nat)), Value.int IntKind.u8 (byteAt tag (1 : Nat)), Value.int IntKind.u8 (byteAt tag (2 : Nat)), Value.int IntKind.u8 (byteAt tag (3 : Nat)), Value.int IntKind.u8 (byteAt tag (4 : Nat)), Value.int IntKind.u8 (byteAt tag (5 : Nat)), Value.int IntKind.u8 (byteAt tag (6 : Nat)), Value.int IntKind.u8 (byteAt tag (7 : Nat)), Value.int IntKind.u8 (byteAt tag (8 : Nat)), Value.int IntKind.u8 (byteAt tag (9 : Nat)), Value.int IntKind.u8 (byteAt tag (10 : Nat)), Value.int IntKind.u8 (byteAt tag (11 : Nat)), Value.int IntKind.u8 (byteAt tag (12 : Nat)), Value.int IntKind.u8 (byteAt tag (13 : Nat)), Value.int IntKind.u8 (byteAt tag (14 : Nat)), Value.int IntKind.u8 (byteAt tag (15 : Nat))] [Value.int IntKind.u8 (byteAt z (0 : Nat)), Value.int IntKind.u8 (byteAt z (1 : Nat)), Value.int IntKind.u8 (byteAt z (2 : Nat)), Value.int IntKind.u8 (byteAt z (3 : Nat)), Value.int IntKind.u8 (byteAt z (4 : Nat)), Value.int IntKind.u8 (byteAt z (5 : Nat)), Value.int IntKind.u8 (byteAt z (6 : Nat)), Value.int IntKind.u8 (byteAt z (7 : Nat)), Value.int IntKind.u8 (byteAt z (8 : Nat)), Value.int IntKind.u8 (byteAt z (9 : Nat)), Value.int IntKind.u8 (byteAt z (10 : Nat)), Value.int IntKind.u8 (byteAt z (11 : Nat)), Value.int IntKind.u8 (byteAt z (12 : Nat)), Value.int IntKind.u8 (byteAt z (13 : Nat)), Value.int IntKind.u8 (byteAt z (14 : Nat)), Value.int IntKind.u8 (byteAt z (15 : Nat))]) = false)]) [false, false, false] true (by kernel_rfl) (by kernel_rfl) ⟨(by first | rfl | exact hz | exact he | exact hs | exact isI16 z | decide | (have := hs16 hb2; omega)), (by first | rfl | exact hz | exact he | exact hs | exact isI16 z | decide | (have := hs16 hb2; omega)), (by first | rfl | exact hz | exact he | exact hs | exact isI16 z | decide | (have := hs16 hb2; omega)), (by first | rfl | exact hz | exact he | exact hs | exact isI16 z | decide | (have := hs16 hb2; omega)), hb1, hb2, (by first | rfl | exact hz | exact he | exact hs | exact isI16 z | decide | (have := hs16 hb2; omega)), (by first | rfl | exact hz | exact he | exact hs | exact isI16 z | decide | (have := hs16 hb2; omega)), hb3, trivial⟩ (by first | (rw [r1 hb1]; rfl) | (rw [r2 hb1 hb2]; rfl) | (rw [r3 hb1 hb2 hb3]; rfl) | (rw [r4 hb1 hb2 hb3]; rfl)) hsim
theorem checkN_ok (g n : Int) (t tag : ByteArray) : Eng.Spec Tryd.prog glT 13 [.d (.raw (.pointer none)), .d (.agg [.raw (.int .i64 g), .raw (.int .i64 n), .raw (.string t), .raw (.string tag)])] [] (.d (.raw (.int .i64 (if isM g n = true then 7 else 1)))) [] := by
  refine spec_fn Tryd.func13 rfl fun {w N E a} hsim => ?_
  obtain ⟨z, hz⟩ : ∃ z, z = zer16 := ⟨_, rfl⟩
  obtain ⟨e, he⟩ : ∃ e, e = if isM g n = true then (7 : Int) else 1 := ⟨_, rfl⟩
  have hne : (e != (0 : Int)) = false → False := fun h => by rw [he] at h; split at h <;> exact absurd h (by decide)
  rcases Bool.eq_false_or_eq_true (e != (0 : Int)) with hb1 | hb1
  · skip
    exact go_ret (A1_ok z e) rfl rfl Tryd.func13 (sr' := ⟨0, [.d (.raw (.int .i64 (e)))], []⟩) (cs := [(z = zer16), (e = if isM g n = true then (7 : Int) else (1 : Int)), ((e != (0 : Int)) = true)]) [true] true (by kernel_rfl) (by kernel_rfl) ⟨(by first | rfl | exact hz | exact he | exact False.elim (hne hb1) | decide), (by first | rfl | exact hz | exact he | exact False.elim (hne hb1) | decide), hb1, trivial⟩ (by first | exact False.elim (hne hb1) | (rw [← he]; rfl)) hsim
  · skip
    rcases Bool.eq_false_or_eq_true ((↑tag.size : Int) != (16 : Int)) with hb2 | hb2
    · skip
      exact go_ret (A1_ok z e) rfl rfl Tryd.func13 (sr' := ⟨0, [.d (.raw (.int .i64 ((30 : Int))))], []⟩) (cs := [(z = zer16), (e = if isM g n = true then (7 : Int) else (1 : Int)), ((e != (0 : Int)) = false), (((↑tag.size : Int) != (16 : Int)) = true)]) [false, true] true (by kernel_rfl) (by kernel_rfl) ⟨(by first | rfl | exact hz | exact he | exact False.elim (hne hb1) | decide), (by first | rfl | exact hz | exact he | exact False.elim (hne hb1) | decide), hb1, hb2, trivial⟩ (by first | exact False.elim (hne hb1) | (rw [← he]; rfl)) hsim
    · skip
      rcases Bool.eq_false_or_eq_true (!eqcs [Value.int IntKind.u8 (byteAt tag (0 : Nat)), Value.int IntKind.u8 (byteAt tag (1 : Nat)), Value.int IntKind.u8 (byteAt tag (2 : Nat)), Value.int IntKind.u8 (byteAt tag (3 : Nat)), Value.int IntKind.u8 (byteAt tag (4 : Nat)), Value.int IntKind.u8 (byteAt tag (5 : Nat)), Value.int IntKind.u8 (byteAt tag (6 : Nat)), Value.int IntKind.u8 (byteAt tag (7 : Nat)), Value.int IntKind.u8 (byteAt tag (8 : Nat)), Value.int IntKind.u8 (byteAt tag (9 : Nat)), Value.int IntKind.u8 (byteAt tag (10 : Nat)), Value.int IntKind.u8 (byteAt tag (11 : Nat)), Value.int IntKind.u8 (byteAt tag (12 : Nat)), Value.int IntKind.u8 (byteAt tag (13 : Nat)), Value.int IntKind.u8 (byteAt tag (14 : Nat)), Value.int IntKind.u8 (byteAt tag (15 : Nat))] [Value.int IntKind.u8 (byteAt z (0 : Nat)), Value.int IntKind.u8 (byteAt z (1 : Nat)), Value.int IntKind.u8 (byteAt z (2 : Nat)), Value.int IntKind.u8 (byteAt z (3 : Nat)), Value.int IntKind.u8 (byteAt z (4 : Nat)), Value.int IntKind.u8 (byteAt z (5 : Nat)), Value.int IntKind.u8 (byteAt z (6 : Nat)), Value.int IntKind.u8 (byteAt z (7 : Nat)), Value.int IntKind.u8 (byteAt z (8 : Nat)), Value.int IntKind.u8 (byteAt z (9 : Nat)), Value.int IntKind.u8 (byteAt z (10 : Nat)), Value.int IntKind.u8 (byteAt z (11 : Nat)), Value.int IntKind.u8 (byteAt z (12 : Nat)), Value.int IntKind.u8 (byteAt z (13 : Nat)), Value.int IntKind.u8 (byteAt z (14 : Nat)), Value.int IntKind.u8 (byteAt z (15 : Nat))]) with hb3 | hb3
      · skip
        exact go_ret (A1_ok z e) rfl rfl Tryd.func13 (sr' := ⟨0, [.d (.raw (.int .i64 ((30 : Int))))], []⟩) (cs := [(z = zer16), (e = if isM g n = true then (7 : Int) else (1 : Int)), ((e != (0 : Int)) = false), (((↑tag.size : Int) != (16 : Int)) = false), (tag.size ≤ (9223372036854775807 : Nat)), ((16 : Nat) ≤ tag.size), ((!eqcs [Value.int IntKind.u8 (byteAt tag (0 : Nat)), Value.int IntKind.u8 (byteAt tag (1 : Nat)), Value.int IntKind.u8 (byteAt tag (2 : Nat)), Value.int IntKind.u8 (byteAt tag (3 : Nat)), Value.int IntKind.u8 (byteAt tag (4 : Nat)), Value.int IntKind.u8 (byteAt tag (5 : Nat)), Value.int IntKind.u8 (byteAt tag (6 : Nat)), Value.int IntKind.u8 (byteAt tag (7 : Nat)), Value.int IntKind.u8 (byteAt tag (8 : Nat)), Value.int IntKind.u8 (byteAt tag (9 : Nat)), Value.int IntKind.u8 (byteAt tag (10 : Nat)), Value.int IntKind.u8 (byteAt tag (11 : Nat)), Value.int IntKind.u8 (byteAt tag (12 : Nat)), Value.int IntKind.u8 (byteAt tag (13 : Nat)), Value.int IntKind.u8 (byteAt tag (14 : Nat)), Value.int IntKind.u8 (byteAt tag (15 : Nat))] [Value.int IntKind.u8 (byteAt z (0 : Nat)), Value.int IntKind.u8 (byteAt z (1 : Nat)), Value.int IntKind.u8 (byteAt z (2 : Nat)), Value.int IntKind.u8 (byteAt z (3 : Nat)), Value.int IntKind.u8 (byteAt z (4 : Nat)), Value.int IntKind.u8 (byteAt z (5 : Nat)), Value.int IntKind.u8 (byteAt z (6 : Nat)), Value.int IntKind.u8 (byteAt z (7 : Nat)), Value.int IntKind.u8 (byteAt z (8 : Nat)), Value.int IntKind.u8 (byteAt z (9 : Nat)), Value.int IntKind.u8 (byteAt z (10 : Nat)), Value.int IntKind.u8 (byteAt z (11 : Nat)), Value.int IntKind.u8 (byteAt z (12 : Nat)), Value.int IntKind.u8 (byteAt z (13 : Nat)), Value.int IntKind.u8 (byteAt z (14 : Nat)), Value.int IntKind.u8 (byteAt z (15 : Nat))]) = true)]) [false, false, true] true (by kernel_rfl) (by kernel_rfl) ⟨(by first | rfl | exact hz | exact he | exact False.elim (hne hb1) | decide), (by first | rfl | exact hz | exact he | exact False.elim (hne hb1) | decide), hb1, hb2, (by first | rfl | exact hz | exact he | exact False.elim (hne hb1) | decide), (by first | rfl | exact hz | exact he | exact False.elim (hne hb1) | decide), hb3, trivial⟩ (by first | exact False.elim (hne hb1) | (rw [← he]; rfl)) hsim
      · skip
        exact go_ret (A1_ok z e) rfl rfl Tryd.func13 (sr' := ⟨0, [.d (.raw (.int .i64 ((0 : Int))))], []⟩) (cs := [(z = zer16), (e = if isM g n = true then (7 : Int) else (1 : Int)), ((e != (0 : Int)) = false), (((↑tag.size : Int) != (16 : Int)) = false), (tag.size ≤ (9223372036854775807 : Nat)), ((16 : Nat) ≤ tag.size), ((!eqcs [Value.int IntKind.u8 (byteAt tag (0 : Nat)), Value.int IntKind.u8 (byteAt tag (1 : Nat)), Value.int IntKind.u8 (byteAt tag (2 : Nat)), Value.int IntKind.u8 (byteAt tag (3 : Nat)), Value.int IntKind.u8 (byteAt tag (4 : Nat)), Value.int IntKind.u8 (byteAt tag (5 : Nat)), Value.int IntKind.u8 (byteAt tag (6 : Nat)), Value.int IntKind.u8 (byteAt tag (7 : Nat)), Value.int IntKind.u8 (byteAt tag (8 : Nat)), Value.int IntKind.u8 (byteAt tag (9 : Nat)), Value.int IntKind.u8 (byteAt tag (10 : Nat)), Value.int IntKind.u8 (byteAt tag (11 : Nat)), Value.int IntKind.u8 (byteAt tag (12 : Nat)), Value.int IntKind.u8 (byteAt tag (13 : Nat)), Value.int IntKind.u8 (byteAt tag (14 : Nat)), Value.int IntKind.u8 (byteAt tag (15 : Nat))] [Value.int IntKind.u8 (byteAt z (0 : Nat)), Value.int IntKind.u8 (byteAt z (1 : Nat)), Value.int IntKind.u8 (byteAt z (2 : Nat)), Value.int IntKind.u8 (byteAt z (3 : Nat)), Value.int IntKind.u8 (byteAt z (4 : Nat)), Value.int IntKind.u8 (byteAt z (5 : Nat)), Value.int IntKind.u8 (byteAt z (6 : Nat)), Value.int IntKind.u8 (byteAt z (7 : Nat)), Value.int IntKind.u8 (byteAt z (8 : Nat)), Value.int IntKind.u8 (byteAt z (9 : Nat)), Value.int IntKind.u8 (byteAt z (10 : Nat)), Value.int IntKind.u8 (byteAt z (11 : Nat)), Value.int IntKind.u8 (byteAt z (12 : Nat)), Value.int IntKind.u8 (byteAt z (13 : Nat)), Value.int IntKind.u8 (byteAt z (14 : Nat)), Value.int IntKind.u8 (byteAt z (15 : Nat))]) = false)]) [false, false, false] true (by kernel_rfl) (by kernel_rfl) ⟨(by first | rfl | exact hz | exact he | exact False.elim (hne hb1) | decide), (by first | rfl | exact hz | exact he | exact False.elim (hne hb1) | decide), hb1, hb2, (by first | rfl | exact hz | exact he | exact False.elim (hne hb1) | decide), (by first | rfl | exact hz | exact he | exact False.elim (hne hb1) | decide), hb3, trivial⟩ (by first | exact False.elim (hne hb1) | (rw [← he]; rfl)) hsim
theorem new_ok (seed : ByteArray) (hs : seed.size ≤ 32) : Eng.Spec Tryd.prog (fun _ => none) 8 [.d (.raw (.string seed))] [] (.tup [.ref 0 0, .d (.raw (.int .i64 0))]) (ring seed) := by
  refine spec_fn Tryd.func8 rfl fun {w N E a} hsim => ?_
  rcases Bool.eq_false_or_eq_true (decide ((↑seed.size : Int) > (32 : Int))) with hb1 | hb1
  · skip
    exact go_ret (OrcOK.none _) rfl rfl Tryd.func8 (sr' := ⟨0, [.tup [.d (.raw (Value.pointer none)), .d (.raw (.int .i64 ((2 : Int))))]], []⟩) (cs := [((decide ((↑seed.size : Int) > (32 : Int))) = true)]) [true] true (by kernel_rfl) (by kernel_rfl) ⟨hb1, trivial⟩ (by first | (exfalso; have := of_decide_eq_true hb1; omega) | rfl) hsim
  · skip
    exact go_ret (OrcOK.none _) rfl rfl Tryd.func8 (sr' := ⟨0, [.tup [.ref 0 0, .d (.raw (.int .i64 ((0 : Int))))]], [(0, .obj 57 [.d (.raw (.string (seed)))])]⟩) (cs := [((decide ((↑seed.size : Int) > (32 : Int))) = false)]) [false] true (by kernel_rfl) (by kernel_rfl) ⟨hb1, trivial⟩ (by first | (exfalso; have := of_decide_eq_true hb1; omega) | rfl) hsim
theorem newE_ok (seed : ByteArray) (hs : ¬ seed.size ≤ 32) : Eng.Spec Tryd.prog (fun _ => none) 8 [.d (.raw (.string seed))] [] (.tup [.d (.raw (.pointer none)), .d (.raw (.int .i64 2))]) [] := by
  refine spec_fn Tryd.func8 rfl fun {w N E a} hsim => ?_
  rcases Bool.eq_false_or_eq_true (decide ((↑seed.size : Int) > (32 : Int))) with hb1 | hb1
  · skip
    exact go_ret (OrcOK.none _) rfl rfl Tryd.func8 (sr' := ⟨0, [.tup [.d (.raw (Value.pointer none)), .d (.raw (.int .i64 ((2 : Int))))]], []⟩) (cs := [((decide ((↑seed.size : Int) > (32 : Int))) = true)]) [true] true (by kernel_rfl) (by kernel_rfl) ⟨hb1, trivial⟩ (by first | (exfalso; have := of_decide_eq_false hb1; omega) | rfl) hsim
  · skip
    exact go_ret (OrcOK.none _) rfl rfl Tryd.func8 (sr' := ⟨0, [.tup [.ref 0 0, .d (.raw (.int .i64 ((0 : Int))))]], [(0, .obj 57 [.d (.raw (.string (seed)))])]⟩) (cs := [((decide ((↑seed.size : Int) > (32 : Int))) = false)]) [false] true (by kernel_rfl) (by kernel_rfl) ⟨hb1, trivial⟩ (by first | (exfalso; have := of_decide_eq_false hb1; omega) | rfl) hsim
end Go.Sea
