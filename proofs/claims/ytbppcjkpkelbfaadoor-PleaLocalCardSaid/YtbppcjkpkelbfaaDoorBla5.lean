/-
  Contracts of given functions, plain laws. No condition.
-/
import Derived.Test.YtbppcjkpkelbfaaDoorBla4
import Derived.Test.YtbppcjkpkelbfaaDoorRowS
import Derived.Test.YtbppcjkpkelbfaaDoorPrfG
namespace Go.Bla
open Go Go.Eng Go.Proofs
set_option maxRecDepth 100000
set_option maxHeartbeats 4000000
theorem O4_ok : OrcOK Tryd.prog O4 := O3_ok.add _ false mTurn fun args H r H' cs h hc => by
 unfold mTurn at h
 split at h
 ·
  rename_i row at_ ap T cs U ds
  split at h
  ·
   rename_i ns ms hns hms
   have key : ∀ (l : List W), l.length = 16 → words l = outW l := fun l hl => outW_eq hl
   split at h
   ·
    rename_i h1
    simp only [Bool.and_eq_true, beq_iff_eq] at h1
    obtain ⟨rfl, rfl⟩ := h1
    cases h
    obtain ⟨h1, h2, h3, h4, h5, _⟩ := hc
    rw [words_of hns h1, words_of hms h3, ← key _ (by rw [len_colM]; simpa using h2)]
    exact turn0_ok _ _ (by simpa using h2) (by simpa using h4) T U row h5
   ·
    rename_i h1 h0
    simp only [Bool.and_eq_true, beq_iff_eq] at h1
    obtain ⟨rfl, rfl⟩ := h1
    cases h
    obtain ⟨h1, h2, h3, h4, h5, _⟩ := hc
    rw [words_of hns h1, words_of hms h3, ← key _ (by rw [len_diaM]; simpa using h2)]
    exact turn1_ok _ _ (by simpa using h2) (by simpa using h4) T U row h5
   · cases h
  · cases h
 · cases h
end Go.Bla

namespace Go.Bla
open Go Go.Eng Go.Proofs
set_option maxRecDepth 100000
set_option maxHeartbeats 4000000
theorem len8 {h : List W} (e : h.length = 8) : ∃ h0 h1 h2 h3 h4 h5 h6 h7, h = [h0, h1, h2, h3, h4, h5, h6, h7] := by
 match h, e with
 | [h0, h1, h2, h3, h4, h5, h6, h7], _ => exact ⟨h0, h1, h2, h3, h4, h5, h6, h7, rfl⟩
theorem hexB : ∀ r, r < 10 → HexRow (rowB r) := by
 have key : ∀ r, r < 10 → (rowB r).size = 16 ∧ ∀ j, j < 16 → (48 ≤ byteAt (rowB r) j ∧ byteAt (rowB r) j ≤ 57) ∨ (97 ≤ byteAt (rowB r) j ∧ byteAt (rowB r) j ≤ 102) := by decide
 exact key
theorem rowZ {w0 : World} {N : Nat → Prop} {E0 : Env} {H0 : List (Nat × Th)} {R : Ending → World → Prop} (h v m : List W) (hh : h.length = 8) (hv : v.length = 16) (hm : m.length = 16) (t : Int) (T : Nat) (i : Int) (row : ByteArray) (hr : HexRow row) {E : Env} {a : Act} {w : World} (hsim : Sim (cx Tryd.prog gl w0 N E0 H0) E (bst2 T h t m v i row) a w)
  (hn : ∀ E a w, Sim (cx Tryd.prog gl w0 N E0 H0) E (bst T h t m (diaM v m row) (IntKind.i64.wrap (i + 1))) a w → Goes Tryd.prog 62 (loopAt Tryd.f62 2) R a w) : Goes Tryd.prog 62 (regAt Tryd.f62 22) R a w := by
 obtain ⟨h0, h1, h2, h3, h4, h5, h6, h7, rfl⟩ := len8 hh
 obtain ⟨v0, v1, v2, v3, v4, v5, v6, v7, v8, v9, v10, v11, v12, v13, v14, v15, rfl⟩ := len16 hv
 obtain ⟨m0, m1, m2, m3, m4, m5, m6, m7, m8, m9, m10, m11, m12, m13, m14, m15, rfl⟩ := len16 hm
 have hl : (diaM [v0, v1, v2, v3, v4, v5, v6, v7, v8, v9, v10, v11, v12, v13, v14, v15] [m0, m1, m2, m3, m4, m5, m6, m7, m8, m9, m10, m11, m12, m13, m14, m15] row).length = 16 := by rw [len_diaM]; rfl
 have q0_ : ((16 : Nat) = (16 : Nat)) := (by first | decide | exact hr | (simp only [OkW, List.map_cons, List.map_nil, unw_w]; done))
 refine gh O4_ok (k' := loopAt Tryd.f62 2) (s' := let za := diaM (List.map unw (tL v0 v1 v2 v3 v4 v5 v6 v7 v8 v9 v10 v11 v12 v13 v14 v15)) (List.map unw (tL m0 m1 m2 m3 m4 m5 m6 m7 m8 m9 m10 m11 m12 m13 m14 m15)) row; mk 1 138 [(0, .ref 0 0), (8, .ref 1 0), (11, .ref 2 0), (99, .d (.agg [rS (ByteArray.mk #[48, 49, 50, 51, 52, 53, 54, 55, 56, 57, 97, 98, 99, 100, 101, 102]), rS (ByteArray.mk #[101, 97, 52, 56, 57, 102, 100, 54, 49, 99, 48, 50, 98, 55, 53, 51]), rS (ByteArray.mk #[98, 56, 99, 48, 53, 50, 102, 100, 97, 101, 51, 54, 55, 49, 57, 52]), rS (ByteArray.mk #[55, 57, 51, 49, 100, 99, 98, 101, 50, 54, 53, 97, 52, 48, 102, 56]), rS (ByteArray.mk #[57, 48, 53, 55, 50, 52, 97, 102, 101, 49, 98, 99, 54, 56, 51, 100]), rS (ByteArray.mk #[50, 99, 54, 97, 48, 98, 56, 51, 52, 100, 55, 53, 102, 101, 49, 57]), rS (ByteArray.mk #[99, 53, 49, 102, 101, 100, 52, 97, 48, 55, 54, 51, 57, 50, 56, 98]), rS (ByteArray.mk #[100, 98, 55, 101, 99, 49, 51, 57, 53, 48, 102, 52, 56, 54, 50, 97]), rS (ByteArray.mk #[54, 102, 101, 57, 98, 51, 48, 56, 99, 50, 100, 55, 49, 52, 97, 53]), rS (ByteArray.mk #[97, 50, 56, 52, 55, 54, 49, 53, 102, 98, 57, 101, 51, 99, 100, 48])])), (100, vI (wI (i + 1)))] [(0, .obj T [.d (.raw (.int .u32 ((tN h0)))), .d (.raw (.int .u32 ((tN h1)))), .d (.raw (.int .u32 ((tN h2)))), .d (.raw (.int .u32 ((tN h3)))), .d (.raw (.int .u32 ((tN h4)))), .d (.raw (.int .u32 ((tN h5)))), .d (.raw (.int .u32 ((tN h6)))), .d (.raw (.int .u32 ((tN h7)))), .d (.raw (.int .u64 t))]), (1, .obj 152 [.d (.raw (.int .u32 ((tN m0)))), .d (.raw (.int .u32 ((tN m1)))), .d (.raw (.int .u32 ((tN m2)))), .d (.raw (.int .u32 ((tN m3)))), .d (.raw (.int .u32 ((tN m4)))), .d (.raw (.int .u32 ((tN m5)))), .d (.raw (.int .u32 ((tN m6)))), .d (.raw (.int .u32 ((tN m7)))), .d (.raw (.int .u32 ((tN m8)))), .d (.raw (.int .u32 ((tN m9)))), .d (.raw (.int .u32 ((tN m10)))), .d (.raw (.int .u32 ((tN m11)))), .d (.raw (.int .u32 ((tN m12)))), .d (.raw (.int .u32 ((tN m13)))), .d (.raw (.int .u32 ((tN m14)))), .d (.raw (.int .u32 ((tN m15))))]), (2, .obj 154 [.d (.raw (.int .u32 ((tN (za.getD 0 (0 : W)))))), .d (.raw (.int .u32 ((tN (za.getD 1 (0 : W)))))), .d (.raw (.int .u32 ((tN (za.getD 2 (0 : W)))))), .d (.raw (.int .u32 ((tN (za.getD 3 (0 : W)))))), .d (.raw (.int .u32 ((tN (za.getD 4 (0 : W)))))), .d (.raw (.int .u32 ((tN (za.getD 5 (0 : W)))))), .d (.raw (.int .u32 ((tN (za.getD 6 (0 : W)))))), .d (.raw (.int .u32 ((tN (za.getD 7 (0 : W)))))), .d (.raw (.int .u32 ((tN (za.getD 8 (0 : W)))))), .d (.raw (.int .u32 ((tN (za.getD 9 (0 : W)))))), .d (.raw (.int .u32 ((tN (za.getD 10 (0 : W)))))), .d (.raw (.int .u32 ((tN (za.getD 11 (0 : W)))))), .d (.raw (.int .u32 ((tN (za.getD 12 (0 : W)))))), .d (.raw (.int .u32 ((tN (za.getD 13 (0 : W)))))), .d (.raw (.int .u32 ((tN (za.getD 14 (0 : W)))))), .d (.raw (.int .u32 ((tN (za.getD 15 (0 : W))))))])]) (cs := ((fun (c0 : Prop) => [(OkW (tL v0 v1 v2 v3 v4 v5 v6 v7 v8 v9 v10 v11 v12 v13 v14 v15)), c0, (OkW (tL m0 m1 m2 m3 m4 m5 m6 m7 m8 m9 m10 m11 m12 m13 m14 m15)), c0, (HexRow row)]) _)) [] [0,8,11,99,100] ⟨(by first | decide | exact hr | (simp only [OkW, List.map_cons, List.map_nil, unw_w]; done)), q0_, (by first | decide | exact hr | (simp only [OkW, List.map_cons, List.map_nil, unw_w]; done)), q0_, (by first | decide | exact hr | (simp only [OkW, List.map_cons, List.map_nil, unw_w]; done)), trivial⟩ hsim fun E a w hsim => ?_
 refine hn E a w (hsim.tell ?_)
 simp only [List.map_cons, List.map_nil, unw_w]
 unfold bst
 rw [outW_eq hl]
 kernel_rfl
theorem rowY {w0 : World} {N : Nat → Prop} {E0 : Env} {H0 : List (Nat × Th)} {R : Ending → World → Prop} (h v m : List W) (hh : h.length = 8) (hv : v.length = 16) (hm : m.length = 16) (t : Int) (T : Nat) (i : Int) (row : ByteArray) (hr : HexRow row) {E : Env} {a : Act} {w : World} (hsim : Sim (cx Tryd.prog gl w0 N E0 H0) E (bst2 T h t m v i row) a w)
  (hn : ∀ E a w, Sim (cx Tryd.prog gl w0 N E0 H0) E (bst2 T h t m (colM v m row) i row) a w → Goes Tryd.prog 62 (regAt Tryd.f62 22) R a w) : Goes Tryd.prog 62 (regAt Tryd.f62 21) R a w := by
 obtain ⟨h0, h1, h2, h3, h4, h5, h6, h7, rfl⟩ := len8 hh
 obtain ⟨v0, v1, v2, v3, v4, v5, v6, v7, v8, v9, v10, v11, v12, v13, v14, v15, rfl⟩ := len16 hv
 obtain ⟨m0, m1, m2, m3, m4, m5, m6, m7, m8, m9, m10, m11, m12, m13, m14, m15, rfl⟩ := len16 hm
 have hl : (colM [v0, v1, v2, v3, v4, v5, v6, v7, v8, v9, v10, v11, v12, v13, v14, v15] [m0, m1, m2, m3, m4, m5, m6, m7, m8, m9, m10, m11, m12, m13, m14, m15] row).length = 16 := by rw [len_colM]; rfl
 have q0_ : ((16 : Nat) = (16 : Nat)) := (by first | decide | exact hr | (simp only [OkW, List.map_cons, List.map_nil, unw_w]; done))
 refine gc 1 O4_ok (k' := regAt Tryd.f62 22) (s' := let za := colM (List.map unw (tL v0 v1 v2 v3 v4 v5 v6 v7 v8 v9 v10 v11 v12 v13 v14 v15)) (List.map unw (tL m0 m1 m2 m3 m4 m5 m6 m7 m8 m9 m10 m11 m12 m13 m14 m15)) row; mk 1 138 [(0, .ref 0 0), (8, .ref 1 0), (11, .ref 2 0), (14, vS row), (99, .d (.agg [rS (ByteArray.mk #[48, 49, 50, 51, 52, 53, 54, 55, 56, 57, 97, 98, 99, 100, 101, 102]), rS (ByteArray.mk #[101, 97, 52, 56, 57, 102, 100, 54, 49, 99, 48, 50, 98, 55, 53, 51]), rS (ByteArray.mk #[98, 56, 99, 48, 53, 50, 102, 100, 97, 101, 51, 54, 55, 49, 57, 52]), rS (ByteArray.mk #[55, 57, 51, 49, 100, 99, 98, 101, 50, 54, 53, 97, 52, 48, 102, 56]), rS (ByteArray.mk #[57, 48, 53, 55, 50, 52, 97, 102, 101, 49, 98, 99, 54, 56, 51, 100]), rS (ByteArray.mk #[50, 99, 54, 97, 48, 98, 56, 51, 52, 100, 55, 53, 102, 101, 49, 57]), rS (ByteArray.mk #[99, 53, 49, 102, 101, 100, 52, 97, 48, 55, 54, 51, 57, 50, 56, 98]), rS (ByteArray.mk #[100, 98, 55, 101, 99, 49, 51, 57, 53, 48, 102, 52, 56, 54, 50, 97]), rS (ByteArray.mk #[54, 102, 101, 57, 98, 51, 48, 56, 99, 50, 100, 55, 49, 52, 97, 53]), rS (ByteArray.mk #[97, 50, 56, 52, 55, 54, 49, 53, 102, 98, 57, 101, 51, 99, 100, 48])])), (100, vI i)] [(0, .obj T [.d (.raw (.int .u32 ((tN h0)))), .d (.raw (.int .u32 ((tN h1)))), .d (.raw (.int .u32 ((tN h2)))), .d (.raw (.int .u32 ((tN h3)))), .d (.raw (.int .u32 ((tN h4)))), .d (.raw (.int .u32 ((tN h5)))), .d (.raw (.int .u32 ((tN h6)))), .d (.raw (.int .u32 ((tN h7)))), .d (.raw (.int .u64 t))]), (1, .obj 152 [.d (.raw (.int .u32 ((tN m0)))), .d (.raw (.int .u32 ((tN m1)))), .d (.raw (.int .u32 ((tN m2)))), .d (.raw (.int .u32 ((tN m3)))), .d (.raw (.int .u32 ((tN m4)))), .d (.raw (.int .u32 ((tN m5)))), .d (.raw (.int .u32 ((tN m6)))), .d (.raw (.int .u32 ((tN m7)))), .d (.raw (.int .u32 ((tN m8)))), .d (.raw (.int .u32 ((tN m9)))), .d (.raw (.int .u32 ((tN m10)))), .d (.raw (.int .u32 ((tN m11)))), .d (.raw (.int .u32 ((tN m12)))), .d (.raw (.int .u32 ((tN m13)))), .d (.raw (.int .u32 ((tN m14)))), .d (.raw (.int .u32 ((tN m15))))]), (2, .obj 154 [.d (.raw (.int .u32 ((tN (za.getD 0 (0 : W)))))), .d (.raw (.int .u32 ((tN (za.getD 1 (0 : W)))))), .d (.raw (.int .u32 ((tN (za.getD 2 (0 : W)))))), .d (.raw (.int .u32 ((tN (za.getD 3 (0 : W)))))), .d (.raw (.int .u32 ((tN (za.getD 4 (0 : W)))))), .d (.raw (.int .u32 ((tN (za.getD 5 (0 : W)))))), .d (.raw (.int .u32 ((tN (za.getD 6 (0 : W)))))), .d (.raw (.int .u32 ((tN (za.getD 7 (0 : W)))))), .d (.raw (.int .u32 ((tN (za.getD 8 (0 : W)))))), .d (.raw (.int .u32 ((tN (za.getD 9 (0 : W)))))), .d (.raw (.int .u32 ((tN (za.getD 10 (0 : W)))))), .d (.raw (.int .u32 ((tN (za.getD 11 (0 : W)))))), .d (.raw (.int .u32 ((tN (za.getD 12 (0 : W)))))), .d (.raw (.int .u32 ((tN (za.getD 13 (0 : W)))))), .d (.raw (.int .u32 ((tN (za.getD 14 (0 : W)))))), .d (.raw (.int .u32 ((tN (za.getD 15 (0 : W))))))])]) (cs := ((fun (c0 : Prop) => [(OkW (tL v0 v1 v2 v3 v4 v5 v6 v7 v8 v9 v10 v11 v12 v13 v14 v15)), c0, (OkW (tL m0 m1 m2 m3 m4 m5 m6 m7 m8 m9 m10 m11 m12 m13 m14 m15)), c0, (HexRow row)]) _)) [] [0,8,11,14,99,100] ⟨(by first | decide | exact hr | (simp only [OkW, List.map_cons, List.map_nil, unw_w]; done)), q0_, (by first | decide | exact hr | (simp only [OkW, List.map_cons, List.map_nil, unw_w]; done)), q0_, (by first | decide | exact hr | (simp only [OkW, List.map_cons, List.map_nil, unw_w]; done)), trivial⟩ hsim fun E a w hsim => ?_
 refine hn E a w (hsim.tell ?_)
 simp only [List.map_cons, List.map_nil, unw_w]
 unfold bst2
 rw [outW_eq hl]
 kernel_rfl
theorem wrap_r : ∀ r : Nat, r < 10 → IntKind.i64.wrap ((r : Int) + 1) = ((r + 1 : Nat) : Int) := by decide
theorem row_of (r : Nat) (hr : r < 10) : ([ByteArray.mk #[48, 49, 50, 51, 52, 53, 54, 55, 56, 57, 97, 98, 99, 100, 101, 102], ByteArray.mk #[101, 97, 52, 56, 57, 102, 100, 54, 49, 99, 48, 50, 98, 55, 53, 51], ByteArray.mk #[98, 56, 99, 48, 53, 50, 102, 100, 97, 101, 51, 54, 55, 49, 57, 52], ByteArray.mk #[55, 57, 51, 49, 100, 99, 98, 101, 50, 54, 53, 97, 52, 48, 102, 56], ByteArray.mk #[57, 48, 53, 55, 50, 52, 97, 102, 101, 49, 98, 99, 54, 56, 51, 100], ByteArray.mk #[50, 99, 54, 97, 48, 98, 56, 51, 52, 100, 55, 53, 102, 101, 49, 57], ByteArray.mk #[99, 53, 49, 102, 101, 100, 52, 97, 48, 55, 54, 51, 57, 50, 56, 98], ByteArray.mk #[100, 98, 55, 101, 99, 49, 51, 57, 53, 48, 102, 52, 56, 54, 50, 97], ByteArray.mk #[54, 102, 101, 57, 98, 51, 48, 56, 99, 50, 100, 55, 49, 52, 97, 53], ByteArray.mk #[97, 50, 56, 52, 55, 54, 49, 53, 102, 98, 57, 101, 51, 99, 100, 48]] : List ByteArray).getD ((r : Int)).toNat ByteArray.empty = rowB r := by
 have hl : [ByteArray.mk #[48, 49, 50, 51, 52, 53, 54, 55, 56, 57, 97, 98, 99, 100, 101, 102], ByteArray.mk #[101, 97, 52, 56, 57, 102, 100, 54, 49, 99, 48, 50, 98, 55, 53, 51], ByteArray.mk #[98, 56, 99, 48, 53, 50, 102, 100, 97, 101, 51, 54, 55, 49, 57, 52], ByteArray.mk #[55, 57, 51, 49, 100, 99, 98, 101, 50, 54, 53, 97, 52, 48, 102, 56], ByteArray.mk #[57, 48, 53, 55, 50, 52, 97, 102, 101, 49, 98, 99, 54, 56, 51, 100], ByteArray.mk #[50, 99, 54, 97, 48, 98, 56, 51, 52, 100, 55, 53, 102, 101, 49, 57], ByteArray.mk #[99, 53, 49, 102, 101, 100, 52, 97, 48, 55, 54, 51, 57, 50, 56, 98], ByteArray.mk #[100, 98, 55, 101, 99, 49, 51, 57, 53, 48, 102, 52, 56, 54, 50, 97], ByteArray.mk #[54, 102, 101, 57, 98, 51, 48, 56, 99, 50, 100, 55, 49, 52, 97, 53], ByteArray.mk #[97, 50, 56, 52, 55, 54, 49, 53, 102, 98, 57, 101, 51, 99, 100, 48]] = (List.range 10).map rowB := rfl
 rw [hl, List.getD_eq_getElem?_getD, Int.toNat_natCast, List.getElem?_map, List.getElem?_range hr]; rfl
theorem row {w0 : World} {N : Nat → Prop} {E0 : Env} {H0 : List (Nat × Th)} {R : Ending → World → Prop} (h v m : List W) (hh : h.length = 8) (hv : v.length = 16) (hm : m.length = 16) (t : Int) (T : Nat) (r : Nat) (hr : r < 10) {E : Env} {a : Act} {w : World} (hsim : Sim (cx Tryd.prog gl w0 N E0 H0) E (bst T h t m v r) a w)
   (hn : ∀ E a w, Sim (cx Tryd.prog gl w0 N E0 H0) E (bst T h t m (diaM (colM v m (rowB r)) m (rowB r)) ((r + 1 : Nat) : Int)) a w → Goes Tryd.prog 62 (loopAt Tryd.f62 2) R a w) : Goes Tryd.prog 62 (loopAt Tryd.f62 2) R a w := by
 have hi := wrap_r r hr
 have s2 : ∀ E a w, Sim (cx Tryd.prog gl w0 N E0 H0) E (bst2 T h t m v r (rowB r)) a w → Goes Tryd.prog 62 (regAt Tryd.f62 21) R a w := fun E a w hs => by
   refine rowY h v m hh hv hm t T r (rowB r) (hexB r hr) hs fun E a w hs => ?_
   refine rowZ h _ m hh (by rw [len_colM]; exact hv) hm t T r (rowB r) (hexB r hr) hs fun E a w hs => ?_
   rw [hi] at hs
   exact hn E a w hs
 clear hn
 have hd : decide ((r : Int) < (10 : Int)) = true := by simp; omega
 obtain ⟨h0, h1, h2, h3, h4, h5, h6, h7, rfl⟩ := len8 hh
 obtain ⟨v0, v1, v2, v3, v4, v5, v6, v7, v8, v9, v10, v11, v12, v13, v14, v15, rfl⟩ := len16 hv
 obtain ⟨m0, m1, m2, m3, m4, m5, m6, m7, m8, m9, m10, m11, m12, m13, m14, m15, rfl⟩ := len16 hm
 generalize hi2 : (r : Int) = i at *
 rcases bd (decide (i < (10 : Int))) with hb1 | hb1
 ·
  refine gc 10 O4_ok (k' := regAt Tryd.f62 21) (s' := mk 1 138 [(0, .ref 0 0), (8, .ref 1 0), (11, .ref 2 0), (14, vS ([ByteArray.mk #[48, 49, 50, 51, 52, 53, 54, 55, 56, 57, 97, 98, 99, 100, 101, 102], ByteArray.mk #[101, 97, 52, 56, 57, 102, 100, 54, 49, 99, 48, 50, 98, 55, 53, 51], ByteArray.mk #[98, 56, 99, 48, 53, 50, 102, 100, 97, 101, 51, 54, 55, 49, 57, 52], ByteArray.mk #[55, 57, 51, 49, 100, 99, 98, 101, 50, 54, 53, 97, 52, 48, 102, 56], ByteArray.mk #[57, 48, 53, 55, 50, 52, 97, 102, 101, 49, 98, 99, 54, 56, 51, 100], ByteArray.mk #[50, 99, 54, 97, 48, 98, 56, 51, 52, 100, 55, 53, 102, 101, 49, 57], ByteArray.mk #[99, 53, 49, 102, 101, 100, 52, 97, 48, 55, 54, 51, 57, 50, 56, 98], ByteArray.mk #[100, 98, 55, 101, 99, 49, 51, 57, 53, 48, 102, 52, 56, 54, 50, 97], ByteArray.mk #[54, 102, 101, 57, 98, 51, 48, 56, 99, 50, 100, 55, 49, 52, 97, 53], ByteArray.mk #[97, 50, 56, 52, 55, 54, 49, 53, 102, 98, 57, 101, 51, 99, 100, 48]].getD i.toNat eB)), (99, .d (.agg [rS (ByteArray.mk #[48, 49, 50, 51, 52, 53, 54, 55, 56, 57, 97, 98, 99, 100, 101, 102]), rS (ByteArray.mk #[101, 97, 52, 56, 57, 102, 100, 54, 49, 99, 48, 50, 98, 55, 53, 51]), rS (ByteArray.mk #[98, 56, 99, 48, 53, 50, 102, 100, 97, 101, 51, 54, 55, 49, 57, 52]), rS (ByteArray.mk #[55, 57, 51, 49, 100, 99, 98, 101, 50, 54, 53, 97, 52, 48, 102, 56]), rS (ByteArray.mk #[57, 48, 53, 55, 50, 52, 97, 102, 101, 49, 98, 99, 54, 56, 51, 100]), rS (ByteArray.mk #[50, 99, 54, 97, 48, 98, 56, 51, 52, 100, 55, 53, 102, 101, 49, 57]), rS (ByteArray.mk #[99, 53, 49, 102, 101, 100, 52, 97, 48, 55, 54, 51, 57, 50, 56, 98]), rS (ByteArray.mk #[100, 98, 55, 101, 99, 49, 51, 57, 53, 48, 102, 52, 56, 54, 50, 97]), rS (ByteArray.mk #[54, 102, 101, 57, 98, 51, 48, 56, 99, 50, 100, 55, 49, 52, 97, 53]), rS (ByteArray.mk #[97, 50, 56, 52, 55, 54, 49, 53, 102, 98, 57, 101, 51, 99, 100, 48])])), (100, vI i)] [(0, .obj T [.d (.raw (.int .u32 ((tN h0)))), .d (.raw (.int .u32 ((tN h1)))), .d (.raw (.int .u32 ((tN h2)))), .d (.raw (.int .u32 ((tN h3)))), .d (.raw (.int .u32 ((tN h4)))), .d (.raw (.int .u32 ((tN h5)))), .d (.raw (.int .u32 ((tN h6)))), .d (.raw (.int .u32 ((tN h7)))), .d (.raw (.int .u64 t))]), (1, .obj 152 [.d (.raw (.int .u32 ((tN m0)))), .d (.raw (.int .u32 ((tN m1)))), .d (.raw (.int .u32 ((tN m2)))), .d (.raw (.int .u32 ((tN m3)))), .d (.raw (.int .u32 ((tN m4)))), .d (.raw (.int .u32 ((tN m5)))), .d (.raw (.int .u32 ((tN m6)))), .d (.raw (.int .u32 ((tN m7)))), .d (.raw (.int .u32 ((tN m8)))), .d (.raw (.int .u32 ((tN m9)))), .d (.raw (.int .u32 ((tN m10)))), .d (.raw (.int .u32 ((tN m11)))), .d (.raw (.int .u32 ((tN m12)))), .d (.raw (.int .u32 ((tN m13)))), .d (.raw (.int .u32 ((tN m14)))), .d (.raw (.int .u32 ((tN m15))))]), (2, .obj 154 [.d (.raw (.int .u32 ((tN v0)))), .d (.raw (.int .u32 ((tN v1)))), .d (.raw (.int .u32 ((tN v2)))), .d (.raw (.int .u32 ((tN v3)))), .d (.raw (.int .u32 ((tN v4)))), .d (.raw (.int .u32 ((tN v5)))), .d (.raw (.int .u32 ((tN v6)))), .d (.raw (.int .u32 ((tN v7)))), .d (.raw (.int .u32 ((tN v8)))), .d (.raw (.int .u32 ((tN v9)))), .d (.raw (.int .u32 ((tN v10)))), .d (.raw (.int .u32 ((tN v11)))), .d (.raw (.int .u32 ((tN v12)))), .d (.raw (.int .u32 ((tN v13)))), .d (.raw (.int .u32 ((tN v14)))), .d (.raw (.int .u32 ((tN v15))))])]) (cs := [_, ((0 : Int) ≤ i ∧ i < (10 : Int))]) [true, false] [0,8,11,14,99,100] ⟨hb1, (by first | decide | omega), trivial⟩ hsim fun E a w hsim => ?_
  refine s2 E a w (hsim.tell ?_)
  subst hi2
  rw [row_of r hr]
  kernel_rfl
 ·
  exact absurd hb1 (by rw [hd]; decide)
end Go.Bla
