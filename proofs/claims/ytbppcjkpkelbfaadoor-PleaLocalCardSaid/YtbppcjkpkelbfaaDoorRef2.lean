/-
  Contracts of given functions, plain laws. No condition.
-/
import Derived.Test.YtbppcjkpkelbfaaDoorPrfG
import Derived.Test.YtbppcjkpkelbfaaDoorRefG
import Derived.Test.YtbppcjkpkelbfaaDoorBla9
import Derived.Test.YtbppcjkpkelbfaaDoorProg
namespace Go.Bla
open Go Go.Eng Go.Proofs
set_option maxRecDepth 100000
set_option maxHeartbeats 4000000
theorem wl_wel {l : List W} (h : l.length = 16) : wl 16 (wel l) = l := by
 unfold wl wel
 apply List.ext_getElem
 · simp [h]
 ·
  intro i h1 h2
  simp only [List.getElem_map, List.getElem_range]
  show unw ((l.getD i 0).toNat : Int) = _
  rw [unw_w, List.getD_eq_getElem?_getD, List.getElem?_eq_getElem h2]; rfl
theorem okR_wel {l : List W} (h : l.length = 16) : OkR 16 (wel l) := fun i _ => by rw [wl_wel h]
theorem sg_lt : ∀ r, r < 10 → ∀ j, j < 16 → sg r j < 16 := by decide
theorem getD_mW (b : Nat → Int) (k : Nat) (hk : k < 16) : (mW b).getD k 0 = wd4 (b (4 * k)) (b (4 * k + 1)) (b (4 * k + 2)) (b (4 * k + 3)) := by
 unfold mW
 rw [List.getD_eq_getElem?_getD, List.getElem?_map, List.getElem?_range hk]; rfl
theorem word64 {b : Nat → Int} (hb : ∀ i, 0 ≤ b i ∧ b i < 256) (p q r s : Nat) :
  IntKind.i64.wrap (IntKind.i64.wrap (IntKind.i64.wrap (IntKind.i64.wrap (b p) + IntKind.i64.wrap ((256 : Int) * IntKind.i64.wrap (b q))) + IntKind.i64.wrap ((65536 : Int) * IntKind.i64.wrap (b r))) + IntKind.i64.wrap ((16777216 : Int) * IntKind.i64.wrap (b s))) = ((wd4 (b p) (b q) (b r) (b s)).toNat : Int) := by
 have h1 := hb p; have h2 := hb q; have h3 := hb r; have h4 := hb s
 rw [wrap_i64 (b p) (by omega), wrap_i64 (b q) (by omega), wrap_i64 (b r) (by omega), wrap_i64 (b s) (by omega), wrap_i64 (256 * b q) (by omega), wrap_i64 (65536 * b r) (by omega), wrap_i64 (16777216 * b s) (by omega), wrap_i64 (b p + 256 * b q) (by omega), wrap_i64 (b p + 256 * b q + 65536 * b r) (by omega), wrap_i64 _ (by omega)]
 unfold wd4 unw
 rw [BitVec.toNat_ofNat]; omega
theorem rbk0 {w0 : World} {N : Nat → Prop} {E0 : Env} {R : Ending → World → Prop} (h : List W) (b : Nat → Int) (hb : ∀ i, 0 ≤ b i ∧ b i < 256) (t : Int) (last : Bool) (k : Nat) (i : Int) (hi : i = 4 * k) (hk : k ≤ 16) {E : Env} {a : Act} {w : World} (hsim : Sim (cx Tryd.prog gl w0 N E0 []) E (rs0 h b t last k i (wel (mW b))) a w)
   (hn : k < 16 → ∀ E a w, Sim (cx Tryd.prog gl w0 N E0 []) E (rs0 h b t last (k + 1) (i + 4) (wel (mW b))) a w → Goes Tryd.prog 61 (loopAt Tryd.f61 0) R a w)
   (he : k = 16 → ∀ E a w, Sim (cx Tryd.prog gl w0 N E0 []) E (rs9 h t last (wel (mW b))) a w → Goes Tryd.prog 61 (regAt Tryd.f61 6) R a w) : Goes Tryd.prog 61 (loopAt Tryd.f61 0) R a w := by
 have g1 : decide (i < 64) = true → k < 16 := fun h => by have := of_decide_eq_true h; omega
 have g2 : decide (i < 64) = false → k = 16 := fun h => by have := of_decide_eq_false h; omega
 have w1 : k < 16 → IntKind.i64.wrap (i + 1) = i + 1 := fun h => wrap_i64 _ (by omega)
 have w2 : k < 16 → IntKind.i64.wrap (i + 2) = i + 2 := fun h => wrap_i64 _ (by omega)
 have w3 : k < 16 → IntKind.i64.wrap (i + 3) = i + 3 := fun h => wrap_i64 _ (by omega)
 have w4 : k < 16 → IntKind.i64.wrap (i + 4) = i + 4 := fun h => wrap_i64 _ (by omega)
 generalize hm : mW b = m at hsim hn he
 rcases bd (decide (i < (64 : Int))) with hb1 | hb1
 ·
  refine gh Q5_ok (k' := loopAt Tryd.f61 0) (s' := mk 0 222 [(0, .d (.list 1 8 (wel h))), (1, .d (.list 1 64 (fun i => D.raw (Value.int IntKind.u8 (b i))))), (2, vI t), (3, vB last), (9, .own 0), (10, vI (IntKind.i64.wrap (i + 4)))] [(0, .row 3 1 (k + 1) (fun j => if j < k then wel m j else segD false 1 (splice (List.map (fun j => (List.map D.raw (Value.int IntKind.i64 (0 : Int)).cells.toList).getD (j % 1) default) (List.range 1)) 0 (rI (IntKind.i64.wrap (IntKind.i64.wrap (IntKind.i64.wrap (IntKind.i64.wrap (b i.toNat) + IntKind.i64.wrap ((256 : Int) * IntKind.i64.wrap (b (IntKind.i64.wrap (i + 1)).toNat))) + IntKind.i64.wrap ((65536 : Int) * IntKind.i64.wrap (b (IntKind.i64.wrap (i + 2)).toNat))) + IntKind.i64.wrap ((16777216 : Int) * IntKind.i64.wrap (b (IntKind.i64.wrap (i + 3)).toNat))))).cells) (j - k)))]) (cs := [_, ((0 : Int) ≤ i ∧ i < (64 : Int)), ((0 : Int) ≤ IntKind.i64.wrap (i + 1) ∧ IntKind.i64.wrap (i + 1) < (64 : Int)), ((0 : Int) ≤ IntKind.i64.wrap (i + 2) ∧ IntKind.i64.wrap (i + 2) < (64 : Int)), ((0 : Int) ≤ IntKind.i64.wrap (i + 3) ∧ IntKind.i64.wrap (i + 3) < (64 : Int)), (k + 1 ≤ 9223372036854775807 ∧ (k + 1) * 8 ≤ 140737488355328)]) [true] [0,1,2,3,9,10] ⟨hb1, (by (have := g1 hb1; omega)), (by (have := g1 hb1; omega)), (by (have := g1 hb1; omega)), (by (have := g1 hb1; omega)), (by (have := g1 hb1; omega)), trivial⟩ hsim fun E a w hsim => ?_
  have hk2 := g1 hb1
  obtain ⟨E2, hs⟩ := hsim.rowEq (k := 0) rfl (wel m) (by
    intro j hj
    try simp only
    split
    ·
     rfl
    ·
     have e : j = k := by omega
     subst e
     rw [Nat.sub_self]
     show D.raw (.int .i64 _) = iw (m.getD j 0)
     rw [← hm, getD_mW b j hk2]
     have e1 : i.toNat = 4 * j := by omega
     have e2 : (IntKind.i64.wrap (i + 1)).toNat = 4 * j + 1 := by rw [w1 hk2]; omega
     have e3 : (IntKind.i64.wrap (i + 2)).toNat = 4 * j + 2 := by rw [w2 hk2]; omega
     have e4 : (IntKind.i64.wrap (i + 3)).toNat = 4 * j + 3 := by rw [w3 hk2]; omega
     rw [e1, e2, e3, e4]
     exact congrArg I (word64 hb _ _ _ _))
  refine hn hk2 E2 a w (hs.tell ?_)
  rw [w4 hk2]; kernel_rfl
 ·
  refine gc 6 Q5_ok (k' := regAt Tryd.f61 6) (s' := mk 0 222 [(0, .d (.list 1 8 (wel h))), (1, .d (.list 1 64 (fun i => D.raw (Value.int IntKind.u8 (b i))))), (2, vI t), (3, vB last), (9, .own 0), (10, vI i)] [(0, .row 3 1 k (wel m))]) (cs := [_]) [false] [0,1,2,3,9,10] ⟨hb1, trivial⟩ hsim fun E a w hsim => ?_
  have hk2 := g2 hb1
  subst hk2
  obtain ⟨E2, hs⟩ := hsim.keep [0, 2, 3, 9]
  exact he rfl E2 a w (hs.tell (by kernel_rfl))
theorem rx12 (n : Nat) : IntKind.i64.wrap (((BitVec.ofInt (64 : Nat) (1359893119 : Int) ^^^ BitVec.ofInt (64 : Nat) ((n : Int).tmod (4294967296 : Int))).toNat : Nat) : Int) = ((0x510E527F#32 ^^^ BitVec.ofNat 32 n).toNat : Int) := by
 have e : (n : Int).tmod (4294967296 : Int) = ((BitVec.ofNat 32 n).toNat : Int) := by
  rw [Int.tmod_eq_emod_of_nonneg (Int.natCast_nonneg _), BitVec.toNat_ofNat]; omega
 rw [e]; exact xor64 0x510E527F#32 _
theorem rx13 (n : Nat) (hn : n < 4611686018427387904) : IntKind.i64.wrap (((BitVec.ofInt (64 : Nat) (2600822924 : Int) ^^^ BitVec.ofInt (64 : Nat) (IntKind.i64.wrap ((n : Int).tdiv (4294967296 : Int)))).toNat : Nat) : Int) = ((0x9B05688C#32 ^^^ BitVec.ofNat 32 (n / 4294967296)).toNat : Int) := by
 have e : (n : Int).tdiv (4294967296 : Int) = ((BitVec.ofNat 32 (n / 4294967296)).toNat : Int) := by
  rw [Int.tdiv_eq_ediv_of_nonneg (Int.natCast_nonneg _), BitVec.toNat_ofNat]; omega
 have := (BitVec.ofNat 32 (n / 4294967296)).isLt
 rw [e, wrap_i64 ((BitVec.ofNat 32 (n / 4294967296)).toNat : Int) (by omega)]; exact xor64 0x9B05688C#32 _
theorem rbk1 {w0 : World} {N : Nat → Prop} {E0 : Env} {R : Ending → World → Prop} (h m : List W) (hh : h.length = 8) (tn : Nat) (ht : tn < 4611686018427387904) (last : Bool) {E : Env} {a : Act} {w : World} (hsim : Sim (cx Tryd.prog gl w0 N E0 []) E (rs9 h tn last (wel m)) a w)
   (hn : ∀ E a w, Sim (cx Tryd.prog gl w0 N E0 []) E (rs1 h m (startM h (BitVec.ofNat 32 tn) (BitVec.ofNat 32 (tn / 4294967296)) last) 0) a w → Goes Tryd.prog 61 (loopAt Tryd.f61 1) R a w) : Goes Tryd.prog 61 (regAt Tryd.f61 6) R a w := by
 obtain ⟨h0, h1, h2, h3, h4, h5, h6, h7, rfl⟩ := len8 hh
 generalize hi : (tn : Int) = t at hsim
 rcases bd (last) with hb1 | hb1
 ·
  have q0_ : ((12 : Nat) < (16 : Nat)) := (by decide)
  have q1_ : (Nz 4294967296) := (by decide)
  have q2_ : ((13 : Nat) < (16 : Nat)) := (by decide)
  have q3_ : ((14 : Nat) < (16 : Nat)) := (by decide)
  refine gh Q5_ok (k' := loopAt Tryd.f61 1) (s' := let za := (↑(BitVec.ofInt 64 (↑1359893119 : Int) ^^^ BitVec.ofInt 64 (t.tmod (4294967296 : Int))).toNat : Int); mk 0 222 [(0, .d (.list 1 8 (wel [h0, h1, h2, h3, h4, h5, h6, h7]))), (9, .own 0), (11, .own 1), (12, vI 0)] [(0, .row 3 1 16 (wel m)), (1, .row 3 1 16 (fun j => mrg (j.beq 14) (rI (IntKind.i64.wrap ((4294967295 : Int) - if false = true then IntKind.i64.wrap (↑(BitVec.ofInt 64 (if false = true then IntKind.i64.wrap za else (↑2600822924 : Int)) ^^^ BitVec.ofInt 64 (IntKind.i64.wrap (t.tdiv (4294967296 : Int)))).toNat : Int) else if false = true then IntKind.i64.wrap za else (↑528734635 : Int)))) (mrg (j.beq 13) (rI (IntKind.i64.wrap (↑(BitVec.ofInt 64 (if false = true then IntKind.i64.wrap za else (↑2600822924 : Int)) ^^^ BitVec.ofInt 64 (IntKind.i64.wrap (t.tdiv (4294967296 : Int)))).toNat : Int))) (mrg (j.beq 12) (rI (IntKind.i64.wrap za)) (if j < 8 then if j < 0 then default else wel [h0, h1, h2, h3, h4, h5, h6, h7] (j - 0) else wel ivM (j - 8))))))]) (cs := ((fun (c0 c1 c2 c3 : Prop) => [(8 ≤ 9223372036854775807 ∧ 64 ≤ 140737488355328), (16 ≤ 9223372036854775807 ∧ 128 ≤ 140737488355328), (Ix 12 16), c0, c1, (Ix 12 16), c0, (Ix 13 16), c2, c1, (Ix 13 16), c2, _, (Ix 14 16), c3, (Ix 14 16), c3]) _ _ _ _)) [true] [0,9,11,12] ⟨(by decide), (by decide), (by decide), q0_, q1_, (by decide), q0_, (by decide), q2_, q1_, (by decide), q2_, hb1, (by decide), q3_, (by decide), q3_, trivial⟩ hsim fun E a w hsim => ?_
  obtain ⟨E2, hs⟩ := hsim.rowEq (k := 1) rfl (wel (startM [h0, h1, h2, h3, h4, h5, h6, h7] (BitVec.ofNat 32 tn) (BitVec.ofNat 32 (tn / 4294967296)) last)) (by
    intro j hj
    rw [hb1, ← hi]
    first | rw [start_t] | rw [start_f]
    match j, hj with | 0, _ | 1, _ | 2, _ | 3, _ | 4, _ | 5, _ | 6, _ | 7, _ | 8, _ | 9, _ | 10, _ | 11, _ | 15, _ => rfl | 12, _ => exact congrArg I (rx12 tn) | 13, _ => exact congrArg I (rx13 tn ht) | 14, _ => rfl | j + 16, h => exact absurd h (by omega))
  exact hn E2 a w (hs.tell (by kernel_rfl))
 ·
  have q0_ : ((12 : Nat) < (16 : Nat)) := (by decide)
  have q1_ : (Nz 4294967296) := (by decide)
  have q2_ : ((13 : Nat) < (16 : Nat)) := (by decide)
  refine gh Q5_ok (k' := loopAt Tryd.f61 1) (s' := let za := (↑(BitVec.ofInt 64 (↑1359893119 : Int) ^^^ BitVec.ofInt 64 (t.tmod (4294967296 : Int))).toNat : Int); mk 0 222 [(0, .d (.list 1 8 (wel [h0, h1, h2, h3, h4, h5, h6, h7]))), (9, .own 0), (11, .own 1), (12, vI 0)] [(0, .row 3 1 16 (wel m)), (1, .row 3 1 16 (fun j => mrg (j.beq 13) (rI (IntKind.i64.wrap (↑(BitVec.ofInt 64 (if false = true then IntKind.i64.wrap za else (↑2600822924 : Int)) ^^^ BitVec.ofInt 64 (IntKind.i64.wrap (t.tdiv (4294967296 : Int)))).toNat : Int))) (mrg (j.beq 12) (rI (IntKind.i64.wrap za)) (if j < 8 then if j < 0 then default else wel [h0, h1, h2, h3, h4, h5, h6, h7] (j - 0) else wel ivM (j - 8)))))]) (cs := ((fun (c0 c1 c2 : Prop) => [(8 ≤ 9223372036854775807 ∧ 64 ≤ 140737488355328), (16 ≤ 9223372036854775807 ∧ 128 ≤ 140737488355328), (Ix 12 16), c0, c1, (Ix 12 16), c0, (Ix 13 16), c2, c1, (Ix 13 16), c2, _]) _ _ _)) [false] [0,9,11,12] ⟨(by decide), (by decide), (by decide), q0_, q1_, (by decide), q0_, (by decide), q2_, q1_, (by decide), q2_, hb1, trivial⟩ hsim fun E a w hsim => ?_
  obtain ⟨E2, hs⟩ := hsim.rowEq (k := 1) rfl (wel (startM [h0, h1, h2, h3, h4, h5, h6, h7] (BitVec.ofNat 32 tn) (BitVec.ofNat 32 (tn / 4294967296)) last)) (by
    intro j hj
    rw [hb1, ← hi]
    first | rw [start_t] | rw [start_f]
    match j, hj with | 0, _ | 1, _ | 2, _ | 3, _ | 4, _ | 5, _ | 6, _ | 7, _ | 8, _ | 9, _ | 10, _ | 11, _ | 15, _ => rfl | 12, _ => exact congrArg I (rx12 tn) | 13, _ => exact congrArg I (rx13 tn ht) | 14, _ => rfl | j + 16, h => exact absurd h (by omega))
  exact hn E2 a w (hs.tell (by kernel_rfl))
theorem rbk2 {w0 : World} {N : Nat → Prop} {E0 : Env} {R : Ending → World → Prop} (h m v : List W) (hv : v.length = 16) (rn : Nat) (hr : rn < 10) {E : Env} {a : Act} {w : World} (hsim : Sim (cx Tryd.prog gl w0 N E0 []) E (rs1 h m v rn) a w)
   (hn : ∀ E a w, Sim (cx Tryd.prog gl w0 N E0 []) E (rs1 h m (roundM v fun j => m.getD (sg rn j) 0) ((rn + 1 : Nat) : Int)) a w → Goes Tryd.prog 61 (loopAt Tryd.f61 1) R a w) : Goes Tryd.prog 61 (loopAt Tryd.f61 1) R a w := by
 have hd : decide ((rn : Int) < 10) = true := decide_eq_true (by omega)
 have hw : IntKind.i64.wrap ((rn : Int) + 1) = ((rn + 1 : Nat) : Int) := wrap_i64 _ (by omega)
 have hsg := fun j hj => sg_lt rn hr j hj
 generalize hi : (rn : Int) = r at hsim hd hw
 have hir : r.toNat = rn := by omega
 have s0 := hsg 0 (by decide); have s1 := hsg 1 (by decide); have s2 := hsg 2 (by decide); have s3 := hsg 3 (by decide); have s4 := hsg 4 (by decide); have s5 := hsg 5 (by decide); have s6 := hsg 6 (by decide); have s7 := hsg 7 (by decide); have s8 := hsg 8 (by decide); have s9 := hsg 9 (by decide); have s10 := hsg 10 (by decide); have s11 := hsg 11 (by decide); have s12 := hsg 12 (by decide); have s13 := hsg 13 (by decide); have s14 := hsg 14 (by decide); have s15 := hsg 15 (by decide)
 rw [← hir] at s0 s1 s2 s3 s4 s5 s6 s7 s8 s9 s10 s11 s12 s13 s14 s15
 rcases bd (decide (r < (10 : Int))) with hb1 | hb1
 ·
  refine gh Q5_ok (k' := loopAt Tryd.f61 1) (s' := mk 0 222 [(0, .d (.list 1 8 (wel h))), (9, .own 0), (11, .own 1), (12, vI (IntKind.i64.wrap (r + 1)))] [(0, .row 3 1 16 (wel m)), (1, .row 3 1 16 (wel (putM (wl 16 (wel (putM (wl 16 (wel (putM (wl 16 (wel (putM (wl 16 (wel (putM (wl 16 (wel (putM (wl 16 (wel (putM (wl 16 (wel (putM (wl 16 (wel v)) 0 4 8 12 (unw (tN (m.getD (↑(sg r.toNat 0) : Int).toNat (0 : W)))) (unw (tN (m.getD (↑(sg r.toNat 1) : Int).toNat (0 : W))))))) 1 5 9 13 (unw (tN (m.getD (↑(sg r.toNat 2) : Int).toNat (0 : W)))) (unw (tN (m.getD (↑(sg r.toNat 3) : Int).toNat (0 : W))))))) 2 6 10 14 (unw (tN (m.getD (↑(sg r.toNat 4) : Int).toNat (0 : W)))) (unw (tN (m.getD (↑(sg r.toNat 5) : Int).toNat (0 : W))))))) 3 7 11 15 (unw (tN (m.getD (↑(sg r.toNat 6) : Int).toNat (0 : W)))) (unw (tN (m.getD (↑(sg r.toNat 7) : Int).toNat (0 : W))))))) 0 5 10 15 (unw (tN (m.getD (↑(sg r.toNat 8) : Int).toNat (0 : W)))) (unw (tN (m.getD (↑(sg r.toNat 9) : Int).toNat (0 : W))))))) 1 6 11 12 (unw (tN (m.getD (↑(sg r.toNat 10) : Int).toNat (0 : W)))) (unw (tN (m.getD (↑(sg r.toNat 11) : Int).toNat (0 : W))))))) 2 7 8 13 (unw (tN (m.getD (↑(sg r.toNat 12) : Int).toNat (0 : W)))) (unw (tN (m.getD (↑(sg r.toNat 13) : Int).toNat (0 : W))))))) 3 4 9 14 (unw (tN (m.getD (↑(sg r.toNat 14) : Int).toNat (0 : W)))) (unw (tN (m.getD (↑(sg r.toNat 15) : Int).toNat (0 : W)))))))]) (cs := [_, ((0 : Int) ≤ r ∧ r < (10 : Int)), (Ix 0 16), ((0 : Int) ≤ (↑(sg r.toNat 0) : Int) ∧ (↑(sg r.toNat 0) : Int) < (16 : Int)), ((↑(sg r.toNat 0) : Int).toNat < 16), (Ix 1 16), ((0 : Int) ≤ (↑(sg r.toNat 1) : Int) ∧ (↑(sg r.toNat 1) : Int) < (16 : Int)), ((↑(sg r.toNat 1) : Int).toNat < 16), (OkR 16 (wel v)), ((tN (m.getD (↑(sg r.toNat 0) : Int).toNat (0 : W))) = (tN (unw (tN (m.getD (↑(sg r.toNat 0) : Int).toNat (0 : W)))))), ((tN (m.getD (↑(sg r.toNat 1) : Int).toNat (0 : W))) = (tN (unw (tN (m.getD (↑(sg r.toNat 1) : Int).toNat (0 : W)))))), (((0 : Int) ≤ (0 : Int) ∧ (0 : Int) < (4 : Int)) ∧ ((4 : Int) ≤ (4 : Int) ∧ (4 : Int) < (8 : Int)) ∧ ((8 : Int) ≤ (8 : Int) ∧ (8 : Int) < (12 : Int)) ∧ (12 : Int) ≤ (12 : Int) ∧ (12 : Int) < (16 : Int)), (Ix 2 16), ((0 : Int) ≤ (↑(sg r.toNat 2) : Int) ∧ (↑(sg r.toNat 2) : Int) < (16 : Int)), ((↑(sg r.toNat 2) : Int).toNat < 16), (Ix 3 16), ((0 : Int) ≤ (↑(sg r.toNat 3) : Int) ∧ (↑(sg r.toNat 3) : Int) < (16 : Int)), ((↑(sg r.toNat 3) : Int).toNat < 16), (OkR 16 (wel (putM (wl 16 (wel v)) 0 4 8 12 (unw (tN (m.getD (↑(sg r.toNat 0) : Int).toNat (0 : W)))) (unw (tN (m.getD (↑(sg r.toNat 1) : Int).toNat (0 : W))))))), ((tN (m.getD (↑(sg r.toNat 2) : Int).toNat (0 : W))) = (tN (unw (tN (m.getD (↑(sg r.toNat 2) : Int).toNat (0 : W)))))), ((tN (m.getD (↑(sg r.toNat 3) : Int).toNat (0 : W))) = (tN (unw (tN (m.getD (↑(sg r.toNat 3) : Int).toNat (0 : W)))))), (((0 : Int) ≤ (1 : Int) ∧ (1 : Int) < (4 : Int)) ∧ ((4 : Int) ≤ (5 : Int) ∧ (5 : Int) < (8 : Int)) ∧ ((8 : Int) ≤ (9 : Int) ∧ (9 : Int) < (12 : Int)) ∧ (12 : Int) ≤ (13 : Int) ∧ (13 : Int) < (16 : Int)), (Ix 4 16), ((0 : Int) ≤ (↑(sg r.toNat 4) : Int) ∧ (↑(sg r.toNat 4) : Int) < (16 : Int)), ((↑(sg r.toNat 4) : Int).toNat < 16), (Ix 5 16), ((0 : Int) ≤ (↑(sg r.toNat 5) : Int) ∧ (↑(sg r.toNat 5) : Int) < (16 : Int)), ((↑(sg r.toNat 5) : Int).toNat < 16), (OkR 16 (wel (putM (wl 16 (wel (putM (wl 16 (wel v)) 0 4 8 12 (unw (tN (m.getD (↑(sg r.toNat 0) : Int).toNat (0 : W)))) (unw (tN (m.getD (↑(sg r.toNat 1) : Int).toNat (0 : W))))))) 1 5 9 13 (unw (tN (m.getD (↑(sg r.toNat 2) : Int).toNat (0 : W)))) (unw (tN (m.getD (↑(sg r.toNat 3) : Int).toNat (0 : W))))))), ((tN (m.getD (↑(sg r.toNat 4) : Int).toNat (0 : W))) = (tN (unw (tN (m.getD (↑(sg r.toNat 4) : Int).toNat (0 : W)))))), ((tN (m.getD (↑(sg r.toNat 5) : Int).toNat (0 : W))) = (tN (unw (tN (m.getD (↑(sg r.toNat 5) : Int).toNat (0 : W)))))), (((0 : Int) ≤ (2 : Int) ∧ (2 : Int) < (4 : Int)) ∧ ((4 : Int) ≤ (6 : Int) ∧ (6 : Int) < (8 : Int)) ∧ ((8 : Int) ≤ (10 : Int) ∧ (10 : Int) < (12 : Int)) ∧ (12 : Int) ≤ (14 : Int) ∧ (14 : Int) < (16 : Int)), (Ix 6 16), ((0 : Int) ≤ (↑(sg r.toNat 6) : Int) ∧ (↑(sg r.toNat 6) : Int) < (16 : Int)), ((↑(sg r.toNat 6) : Int).toNat < 16), (Ix 7 16), ((0 : Int) ≤ (↑(sg r.toNat 7) : Int) ∧ (↑(sg r.toNat 7) : Int) < (16 : Int)), ((↑(sg r.toNat 7) : Int).toNat < 16), (OkR 16 (wel (putM (wl 16 (wel (putM (wl 16 (wel (putM (wl 16 (wel v)) 0 4 8 12 (unw (tN (m.getD (↑(sg r.toNat 0) : Int).toNat (0 : W)))) (unw (tN (m.getD (↑(sg r.toNat 1) : Int).toNat (0 : W))))))) 1 5 9 13 (unw (tN (m.getD (↑(sg r.toNat 2) : Int).toNat (0 : W)))) (unw (tN (m.getD (↑(sg r.toNat 3) : Int).toNat (0 : W))))))) 2 6 10 14 (unw (tN (m.getD (↑(sg r.toNat 4) : Int).toNat (0 : W)))) (unw (tN (m.getD (↑(sg r.toNat 5) : Int).toNat (0 : W))))))), ((tN (m.getD (↑(sg r.toNat 6) : Int).toNat (0 : W))) = (tN (unw (tN (m.getD (↑(sg r.toNat 6) : Int).toNat (0 : W)))))), ((tN (m.getD (↑(sg r.toNat 7) : Int).toNat (0 : W))) = (tN (unw (tN (m.getD (↑(sg r.toNat 7) : Int).toNat (0 : W)))))), (((0 : Int) ≤ (3 : Int) ∧ (3 : Int) < (4 : Int)) ∧ ((4 : Int) ≤ (7 : Int) ∧ (7 : Int) < (8 : Int)) ∧ ((8 : Int) ≤ (11 : Int) ∧ (11 : Int) < (12 : Int)) ∧ (12 : Int) ≤ (15 : Int) ∧ (15 : Int) < (16 : Int)), (Ix 8 16), ((0 : Int) ≤ (↑(sg r.toNat 8) : Int) ∧ (↑(sg r.toNat 8) : Int) < (16 : Int)), ((↑(sg r.toNat 8) : Int).toNat < 16), (Ix 9 16), ((0 : Int) ≤ (↑(sg r.toNat 9) : Int) ∧ (↑(sg r.toNat 9) : Int) < (16 : Int)), ((↑(sg r.toNat 9) : Int).toNat < 16), (OkR 16 (wel (putM (wl 16 (wel (putM (wl 16 (wel (putM (wl 16 (wel (putM (wl 16 (wel v)) 0 4 8 12 (unw (tN (m.getD (↑(sg r.toNat 0) : Int).toNat (0 : W)))) (unw (tN (m.getD (↑(sg r.toNat 1) : Int).toNat (0 : W))))))) 1 5 9 13 (unw (tN (m.getD (↑(sg r.toNat 2) : Int).toNat (0 : W)))) (unw (tN (m.getD (↑(sg r.toNat 3) : Int).toNat (0 : W))))))) 2 6 10 14 (unw (tN (m.getD (↑(sg r.toNat 4) : Int).toNat (0 : W)))) (unw (tN (m.getD (↑(sg r.toNat 5) : Int).toNat (0 : W))))))) 3 7 11 15 (unw (tN (m.getD (↑(sg r.toNat 6) : Int).toNat (0 : W)))) (unw (tN (m.getD (↑(sg r.toNat 7) : Int).toNat (0 : W))))))), ((tN (m.getD (↑(sg r.toNat 8) : Int).toNat (0 : W))) = (tN (unw (tN (m.getD (↑(sg r.toNat 8) : Int).toNat (0 : W)))))), ((tN (m.getD (↑(sg r.toNat 9) : Int).toNat (0 : W))) = (tN (unw (tN (m.getD (↑(sg r.toNat 9) : Int).toNat (0 : W)))))), (((0 : Int) ≤ (0 : Int) ∧ (0 : Int) < (4 : Int)) ∧ ((4 : Int) ≤ (5 : Int) ∧ (5 : Int) < (8 : Int)) ∧ ((8 : Int) ≤ (10 : Int) ∧ (10 : Int) < (12 : Int)) ∧ (12 : Int) ≤ (15 : Int) ∧ (15 : Int) < (16 : Int)), (Ix 10 16), ((0 : Int) ≤ (↑(sg r.toNat 10) : Int) ∧ (↑(sg r.toNat 10) : Int) < (16 : Int)), ((↑(sg r.toNat 10) : Int).toNat < 16), (Ix 11 16), ((0 : Int) ≤ (↑(sg r.toNat 11) : Int) ∧ (↑(sg r.toNat 11) : Int) < (16 : Int)), ((↑(sg r.toNat 11) : Int).toNat < 16), (OkR 16 (wel (putM (wl 16 (wel (putM (wl 16 (wel (putM (wl 16 (wel (putM (wl 16 (wel (putM (wl 16 (wel v)) 0 4 8 12 (unw (tN (m.getD (↑(sg r.toNat 0) : Int).toNat (0 : W)))) (unw (tN (m.getD (↑(sg r.toNat 1) : Int).toNat (0 : W))))))) 1 5 9 13 (unw (tN (m.getD (↑(sg r.toNat 2) : Int).toNat (0 : W)))) (unw (tN (m.getD (↑(sg r.toNat 3) : Int).toNat (0 : W))))))) 2 6 10 14 (unw (tN (m.getD (↑(sg r.toNat 4) : Int).toNat (0 : W)))) (unw (tN (m.getD (↑(sg r.toNat 5) : Int).toNat (0 : W))))))) 3 7 11 15 (unw (tN (m.getD (↑(sg r.toNat 6) : Int).toNat (0 : W)))) (unw (tN (m.getD (↑(sg r.toNat 7) : Int).toNat (0 : W))))))) 0 5 10 15 (unw (tN (m.getD (↑(sg r.toNat 8) : Int).toNat (0 : W)))) (unw (tN (m.getD (↑(sg r.toNat 9) : Int).toNat (0 : W))))))), ((tN (m.getD (↑(sg r.toNat 10) : Int).toNat (0 : W))) = (tN (unw (tN (m.getD (↑(sg r.toNat 10) : Int).toNat (0 : W)))))), ((tN (m.getD (↑(sg r.toNat 11) : Int).toNat (0 : W))) = (tN (unw (tN (m.getD (↑(sg r.toNat 11) : Int).toNat (0 : W)))))), (((0 : Int) ≤ (1 : Int) ∧ (1 : Int) < (4 : Int)) ∧ ((4 : Int) ≤ (6 : Int) ∧ (6 : Int) < (8 : Int)) ∧ ((8 : Int) ≤ (11 : Int) ∧ (11 : Int) < (12 : Int)) ∧ (12 : Int) ≤ (12 : Int) ∧ (12 : Int) < (16 : Int)), (Ix 12 16), ((0 : Int) ≤ (↑(sg r.toNat 12) : Int) ∧ (↑(sg r.toNat 12) : Int) < (16 : Int)), ((↑(sg r.toNat 12) : Int).toNat < 16), (Ix 13 16), ((0 : Int) ≤ (↑(sg r.toNat 13) : Int) ∧ (↑(sg r.toNat 13) : Int) < (16 : Int)), ((↑(sg r.toNat 13) : Int).toNat < 16), (OkR 16 (wel (putM (wl 16 (wel (putM (wl 16 (wel (putM (wl 16 (wel (putM (wl 16 (wel (putM (wl 16 (wel (putM (wl 16 (wel v)) 0 4 8 12 (unw (tN (m.getD (↑(sg r.toNat 0) : Int).toNat (0 : W)))) (unw (tN (m.getD (↑(sg r.toNat 1) : Int).toNat (0 : W))))))) 1 5 9 13 (unw (tN (m.getD (↑(sg r.toNat 2) : Int).toNat (0 : W)))) (unw (tN (m.getD (↑(sg r.toNat 3) : Int).toNat (0 : W))))))) 2 6 10 14 (unw (tN (m.getD (↑(sg r.toNat 4) : Int).toNat (0 : W)))) (unw (tN (m.getD (↑(sg r.toNat 5) : Int).toNat (0 : W))))))) 3 7 11 15 (unw (tN (m.getD (↑(sg r.toNat 6) : Int).toNat (0 : W)))) (unw (tN (m.getD (↑(sg r.toNat 7) : Int).toNat (0 : W))))))) 0 5 10 15 (unw (tN (m.getD (↑(sg r.toNat 8) : Int).toNat (0 : W)))) (unw (tN (m.getD (↑(sg r.toNat 9) : Int).toNat (0 : W))))))) 1 6 11 12 (unw (tN (m.getD (↑(sg r.toNat 10) : Int).toNat (0 : W)))) (unw (tN (m.getD (↑(sg r.toNat 11) : Int).toNat (0 : W))))))), ((tN (m.getD (↑(sg r.toNat 12) : Int).toNat (0 : W))) = (tN (unw (tN (m.getD (↑(sg r.toNat 12) : Int).toNat (0 : W)))))), ((tN (m.getD (↑(sg r.toNat 13) : Int).toNat (0 : W))) = (tN (unw (tN (m.getD (↑(sg r.toNat 13) : Int).toNat (0 : W)))))), (((0 : Int) ≤ (2 : Int) ∧ (2 : Int) < (4 : Int)) ∧ ((4 : Int) ≤ (7 : Int) ∧ (7 : Int) < (8 : Int)) ∧ ((8 : Int) ≤ (8 : Int) ∧ (8 : Int) < (12 : Int)) ∧ (12 : Int) ≤ (13 : Int) ∧ (13 : Int) < (16 : Int)), (Ix 14 16), ((0 : Int) ≤ (↑(sg r.toNat 14) : Int) ∧ (↑(sg r.toNat 14) : Int) < (16 : Int)), ((↑(sg r.toNat 14) : Int).toNat < 16), (Ix 15 16), ((0 : Int) ≤ (↑(sg r.toNat 15) : Int) ∧ (↑(sg r.toNat 15) : Int) < (16 : Int)), ((↑(sg r.toNat 15) : Int).toNat < 16), (OkR 16 (wel (putM (wl 16 (wel (putM (wl 16 (wel (putM (wl 16 (wel (putM (wl 16 (wel (putM (wl 16 (wel (putM (wl 16 (wel (putM (wl 16 (wel v)) 0 4 8 12 (unw (tN (m.getD (↑(sg r.toNat 0) : Int).toNat (0 : W)))) (unw (tN (m.getD (↑(sg r.toNat 1) : Int).toNat (0 : W))))))) 1 5 9 13 (unw (tN (m.getD (↑(sg r.toNat 2) : Int).toNat (0 : W)))) (unw (tN (m.getD (↑(sg r.toNat 3) : Int).toNat (0 : W))))))) 2 6 10 14 (unw (tN (m.getD (↑(sg r.toNat 4) : Int).toNat (0 : W)))) (unw (tN (m.getD (↑(sg r.toNat 5) : Int).toNat (0 : W))))))) 3 7 11 15 (unw (tN (m.getD (↑(sg r.toNat 6) : Int).toNat (0 : W)))) (unw (tN (m.getD (↑(sg r.toNat 7) : Int).toNat (0 : W))))))) 0 5 10 15 (unw (tN (m.getD (↑(sg r.toNat 8) : Int).toNat (0 : W)))) (unw (tN (m.getD (↑(sg r.toNat 9) : Int).toNat (0 : W))))))) 1 6 11 12 (unw (tN (m.getD (↑(sg r.toNat 10) : Int).toNat (0 : W)))) (unw (tN (m.getD (↑(sg r.toNat 11) : Int).toNat (0 : W))))))) 2 7 8 13 (unw (tN (m.getD (↑(sg r.toNat 12) : Int).toNat (0 : W)))) (unw (tN (m.getD (↑(sg r.toNat 13) : Int).toNat (0 : W))))))), ((tN (m.getD (↑(sg r.toNat 14) : Int).toNat (0 : W))) = (tN (unw (tN (m.getD (↑(sg r.toNat 14) : Int).toNat (0 : W)))))), ((tN (m.getD (↑(sg r.toNat 15) : Int).toNat (0 : W))) = (tN (unw (tN (m.getD (↑(sg r.toNat 15) : Int).toNat (0 : W)))))), (((0 : Int) ≤ (3 : Int) ∧ (3 : Int) < (4 : Int)) ∧ ((4 : Int) ≤ (4 : Int) ∧ (4 : Int) < (8 : Int)) ∧ ((8 : Int) ≤ (9 : Int) ∧ (9 : Int) < (12 : Int)) ∧ (12 : Int) ≤ (14 : Int) ∧ (14 : Int) < (16 : Int))]) [true] [0,9,11,12] ⟨hb1, by omega, (by decide), by omega, by omega, (by decide), by omega, by omega, (by exact okR_wel hv), (by (rw [unw_w]; done)), (by (rw [unw_w]; done)), by omega, (by decide), by omega, by omega, (by decide), by omega, by omega, (by (simp only [wl_wel, len_putM, hv]; exact okR_wel (by simp only [len_putM, hv]))), (by (rw [unw_w]; done)), (by (rw [unw_w]; done)), by omega, (by decide), by omega, by omega, (by decide), by omega, by omega, (by (simp only [wl_wel, len_putM, hv]; exact okR_wel (by simp only [len_putM, hv]))), (by (rw [unw_w]; done)), (by (rw [unw_w]; done)), by omega, (by decide), by omega, by omega, (by decide), by omega, by omega, (by (simp only [wl_wel, len_putM, hv]; exact okR_wel (by simp only [len_putM, hv]))), (by (rw [unw_w]; done)), (by (rw [unw_w]; done)), by omega, (by decide), by omega, by omega, (by decide), by omega, by omega, (by (simp only [wl_wel, len_putM, hv]; exact okR_wel (by simp only [len_putM, hv]))), (by (rw [unw_w]; done)), (by (rw [unw_w]; done)), by omega, (by decide), by omega, by omega, (by decide), by omega, by omega, (by (simp only [wl_wel, len_putM, hv]; exact okR_wel (by simp only [len_putM, hv]))), (by (rw [unw_w]; done)), (by (rw [unw_w]; done)), by omega, (by decide), by omega, by omega, (by decide), by omega, by omega, (by (simp only [wl_wel, len_putM, hv]; exact okR_wel (by simp only [len_putM, hv]))), (by (rw [unw_w]; done)), (by (rw [unw_w]; done)), by omega, (by decide), by omega, by omega, (by decide), by omega, by omega, (by (simp only [wl_wel, len_putM, hv]; exact okR_wel (by simp only [len_putM, hv]))), (by (rw [unw_w]; done)), (by (rw [unw_w]; done)), by omega, trivial⟩ hsim fun E a w hsim => ?_
  refine hn E a w (hsim.tell ?_)
  simp only [wl_wel, len_putM, hv, unw_w, Int.toNat_natCast, hir, hw]
  kernel_rfl
 ·
  exact absurd hb1 (by rw [hd]; decide)
theorem rbk3 {w0 : World} {N : Nat → Prop} {E0 : Env} {R : Ending → World → Prop} (h m v : List W) {E : Env} {a : Act} {w : World} (hsim : Sim (cx Tryd.prog gl w0 N E0 []) E (rs1 h m v 10) a w)
   (hn : ∀ E a w, Sim (cx Tryd.prog gl w0 N E0 []) E (rs1 h m v 10) a w → Goes Tryd.prog 61 (regAt Tryd.f61 25) R a w) : Goes Tryd.prog 61 (loopAt Tryd.f61 1) R a w := by
 generalize hi : (10 : Int) = r at hsim hn
 have hd : decide (r < (10 : Int)) = false := by rw [← hi]; decide
 rcases bd (decide (r < (10 : Int))) with hb1 | hb1
 ·
  exact absurd hb1 (by rw [hd]; decide)
 ·
  refine gc 6 Q5_ok (k' := regAt Tryd.f61 25) (s' := mk 0 222 [(0, .d (.list 1 8 (wel h))), (9, .own 0), (11, .own 1), (12, vI r)] [(0, .row 3 1 16 (wel m)), (1, .row 3 1 16 (wel v))]) (cs := [_]) [false] [0,9,11,12] ⟨hb1, trivial⟩ hsim fun E a w hsim => ?_
  exact hn E a w (hsim.tell (by kernel_rfl))
theorem rbk4 {w0 : World} {N : Nat → Prop} {E0 : Env} {R : Ending → World → Prop} (h m v : List W) (r : Int) {E : Env} {a : Act} {w : World} (hsim : Sim (cx Tryd.prog gl w0 N E0 []) E (rs1 h m v r) a w)
  (hn : ∀ E a w, Sim (cx Tryd.prog gl w0 N E0 []) E (rs2 h v 0 0 (wel [])) a w → Goes Tryd.prog 61 (loopAt Tryd.f61 2) R a w) : Goes Tryd.prog 61 (regAt Tryd.f61 25) R a w := by
 refine gh Q5_ok (k' := loopAt Tryd.f61 2) (s' := mk 0 222 [(0, .d (.list 1 8 (wel h))), (11, .own 0), (14, .d (.raw (Value.slice none 0 0))), (15, vI 0)] [(0, .row 3 1 16 (wel v))]) (cs := []) [] [0,11,14,15] trivial hsim fun E a w hsim => ?_
 obtain ⟨E2, hs⟩ := hsim.nilRow (t := 14) rfl 3 1 (wel [])
 exact hn E2 a w (hs.tell (by kernel_rfl))
theorem rbk5 {w0 : World} {N : Nat → Prop} {E0 : Env} (h v : List W) (e : List W) (n : Nat) (hn8 : n ≤ 8) (hx : ∀ j, j < 8 → e.getD j 0 = h.getD j 0 ^^^ v.getD j 0 ^^^ v.getD (j + 8) 0) (hre : ∀ (n : Nat) (i : Int), n = 8 → i = n → ∀ E a w, Sim (cx Tryd.prog gl w0 N E0 []) E (rs2 h v n i (wel e)) a w → Goes Tryd.prog 61 (loopAt Tryd.f61 2) (RSpec (cx Tryd.prog gl w0 N E0 []) ⟨0, [hD e], []⟩) a w) :
  ∀ (i : Int), i = n → ∀ (E : Env) (a : Act) (w : World), Sim (cx Tryd.prog gl w0 N E0 []) E (rs2 h v n i (wel e)) a w → Goes Tryd.prog 61 (loopAt Tryd.f61 2) (RSpec (cx Tryd.prog gl w0 N E0 []) ⟨0, [hD e], []⟩) a w := by
 induction hd : 8 - n generalizing n with
 | zero =>
  intro i hi E a w hsim
  exact hre n i (by omega) hi E a w hsim
 | succ d ih =>
  intro i hi E a w hsim
  have w1 : IntKind.i64.wrap (i + 1) = i + 1 := wrap_i64 _ (by omega)
  have w8 : IntKind.i64.wrap (i + 8) = i + 8 := wrap_i64 _ (by omega)
  have hd2 : decide (i < 8) = true := decide_eq_true (by omega)
  have ih2 := ih (n + 1) (by omega) (by omega) (i + 1) (by omega)
  have hxn := hx n (by omega)
  rcases bd (decide (i < (8 : Int))) with hb1 | hb1
  ·
   refine gh Q5_ok (k' := loopAt Tryd.f61 2) (s' := mk 0 222 [(0, .d (.list 1 8 (wel h))), (11, .own 0), (14, .own 1), (15, vI (IntKind.i64.wrap (i + 1)))] [(0, .row 3 1 16 (wel v)), (1, .row 3 1 (n + 1) (fun j => if j < n then wel e j else segD false 1 (splice (List.map (fun j => (List.map D.raw (Value.int IntKind.i64 (0 : Int)).cells.toList).getD (j % 1) default) (List.range 1)) 0 (rI (IntKind.i64.wrap (↑(BitVec.ofInt 64 (IntKind.i64.wrap (↑(BitVec.ofInt 64 (tN (h.getD i.toNat (0 : W))) ^^^ BitVec.ofInt 64 (tN (v.getD i.toNat (0 : W)))).toNat : Int)) ^^^ BitVec.ofInt 64 (tN (v.getD (IntKind.i64.wrap (i + 8)).toNat (0 : W)))).toNat : Int))).cells) (j - n)))]) (cs := [_, ((0 : Int) ≤ i ∧ i < (8 : Int)), ((0 : Int) ≤ i ∧ i < (16 : Int)), (i.toNat < 16), ((0 : Int) ≤ IntKind.i64.wrap (i + 8) ∧ IntKind.i64.wrap (i + 8) < (16 : Int)), ((IntKind.i64.wrap (i + 8)).toNat < 16), (n + 1 ≤ 9223372036854775807 ∧ (n + 1) * 8 ≤ 140737488355328)]) [true] [0,11,14,15] ⟨hb1, by omega, by omega, by omega, by omega, by omega, by omega, trivial⟩ hsim fun E a w hsim => ?_
   obtain ⟨E2, hs⟩ := hsim.rowEq (k := 1) rfl (wel e) (by
    intro j hj
    try simp only
    split
    ·
     rfl
    ·
     have ej : j = n := by omega
     subst ej
     rw [Nat.sub_self]
     show D.raw (.int .i64 _) = iw (e.getD j 0)
     have e1 : i.toNat = j := by omega
     have e2 : (IntKind.i64.wrap (i + 8)).toNat = j + 8 := by rw [w8]; omega
     rw [hxn, e1, e2, xor64, xor64]; rfl)
   refine ih2 E2 a w (hs.tell ?_)
   rw [w1]; kernel_rfl
  ·
   exact absurd hb1 (by rw [hd2]; decide)
theorem rbk6 {w0 : World} {N : Nat → Prop} {E0 : Env} (h v : List W) (e : List W) (n : Nat) (i : Int) (h8 : n = 8) (hi : i = n) (E : Env) (a : Act) (w : World) (hsim : Sim (cx Tryd.prog gl w0 N E0 []) E (rs2 h v n i (wel e)) a w) : Goes Tryd.prog 61 (loopAt Tryd.f61 2) (RSpec (cx Tryd.prog gl w0 N E0 []) ⟨0, [hD e], []⟩) a w := by
 have hd2 : decide (i < 8) = false := decide_eq_false (by omega)
 rcases bd (decide (i < (8 : Int))) with hb1 | hb1
 ·
  exact absurd hb1 (by rw [hd2]; decide)
 ·
  exact gr Q5_ok Tryd.func61 (sr' := ⟨0, [.d (.list 1 n (wel e))], []⟩) (cs := [_]) [false] true ⟨hb1, trivial⟩ (by (subst h8; rfl)) hsim
theorem rblock_ok (h : List W) (hh : h.length = 8) (b : Nat → Int) (hb : ∀ i, 0 ≤ b i ∧ b i < 256) (t : Nat) (ht : t < 4611686018427387904) (last : Bool) :
  Eng.Spec Tryd.prog gl 61 [hD h, bD b, .d (I t), .d (.raw (.bool last))] [] (hD (blockM h (mW b) (BitVec.ofNat 32 t) (BitVec.ofNat 32 (t / 4294967296)) last)) [] := by
 refine spec_fn Tryd.func61 rfl fun {w N E a} hsim => ?_
 have hst : (startM h (BitVec.ofNat 32 t) (BitVec.ofNat 32 (t / 4294967296)) last).length = 16 := by
  unfold startM; cases last <;> simp [hh, ivM]
 generalize he : blockM h (mW b) (BitVec.ofNat 32 t) (BitVec.ofNat 32 (t / 4294967296)) last = e
 have p3 : ∀ E1 a1 w1, Sim (cx Tryd.prog gl w N E []) E1 (rs1 h (mW b) (startM h (BitVec.ofNat 32 t) (BitVec.ofNat 32 (t / 4294967296)) last) 0) a1 w1 → Goes Tryd.prog 61 (loopAt Tryd.f61 1) (RSpec (cx Tryd.prog gl w N E []) ⟨0, [hD e], []⟩) a1 w1 := fun E1 a1 w1 h1 => by
  unfold blockM at he
  simp only at he
  generalize startM h (BitVec.ofNat 32 t) (BitVec.ofNat 32 (t / 4294967296)) last = v at *
  generalize mW b = m at *
  have hl : ∀ r, (rounds m r v).length = 16 := fun r => by rw [len_rounds, hst]
  change Sim (cx Tryd.prog gl w N E []) E1 (rs1 h m (rounds m 0 v) ((0 : Nat) : Int)) a1 w1 at h1
  refine rbk2 h m (rounds m 0 v) (hl 0) 0 (by decide) h1 fun E1 a1 w1 h1 => ?_
  change Sim (cx Tryd.prog gl w N E []) E1 (rs1 h m (rounds m 1 v) ((1 : Nat) : Int)) a1 w1 at h1
  refine rbk2 h m (rounds m 1 v) (hl 1) 1 (by decide) h1 fun E1 a1 w1 h1 => ?_
  change Sim (cx Tryd.prog gl w N E []) E1 (rs1 h m (rounds m 2 v) ((2 : Nat) : Int)) a1 w1 at h1
  refine rbk2 h m (rounds m 2 v) (hl 2) 2 (by decide) h1 fun E1 a1 w1 h1 => ?_
  change Sim (cx Tryd.prog gl w N E []) E1 (rs1 h m (rounds m 3 v) ((3 : Nat) : Int)) a1 w1 at h1
  refine rbk2 h m (rounds m 3 v) (hl 3) 3 (by decide) h1 fun E1 a1 w1 h1 => ?_
  change Sim (cx Tryd.prog gl w N E []) E1 (rs1 h m (rounds m 4 v) ((4 : Nat) : Int)) a1 w1 at h1
  refine rbk2 h m (rounds m 4 v) (hl 4) 4 (by decide) h1 fun E1 a1 w1 h1 => ?_
  change Sim (cx Tryd.prog gl w N E []) E1 (rs1 h m (rounds m 5 v) ((5 : Nat) : Int)) a1 w1 at h1
  refine rbk2 h m (rounds m 5 v) (hl 5) 5 (by decide) h1 fun E1 a1 w1 h1 => ?_
  change Sim (cx Tryd.prog gl w N E []) E1 (rs1 h m (rounds m 6 v) ((6 : Nat) : Int)) a1 w1 at h1
  refine rbk2 h m (rounds m 6 v) (hl 6) 6 (by decide) h1 fun E1 a1 w1 h1 => ?_
  change Sim (cx Tryd.prog gl w N E []) E1 (rs1 h m (rounds m 7 v) ((7 : Nat) : Int)) a1 w1 at h1
  refine rbk2 h m (rounds m 7 v) (hl 7) 7 (by decide) h1 fun E1 a1 w1 h1 => ?_
  change Sim (cx Tryd.prog gl w N E []) E1 (rs1 h m (rounds m 8 v) ((8 : Nat) : Int)) a1 w1 at h1
  refine rbk2 h m (rounds m 8 v) (hl 8) 8 (by decide) h1 fun E1 a1 w1 h1 => ?_
  change Sim (cx Tryd.prog gl w N E []) E1 (rs1 h m (rounds m 9 v) ((9 : Nat) : Int)) a1 w1 at h1
  refine rbk2 h m (rounds m 9 v) (hl 9) 9 (by decide) h1 fun E1 a1 w1 h1 => ?_
  change Sim (cx Tryd.prog gl w N E []) E1 (rs1 h m (rounds m 10 v) ((10 : Nat) : Int)) a1 w1 at h1
  refine rbk3 h m _ h1 fun E1 a1 w1 h1 => ?_
  refine rbk4 h m _ _ h1 fun E1 a1 w1 h1 => ?_
  have hx : ∀ j, j < 8 → e.getD j 0 = h.getD j 0 ^^^ (rounds m 10 v).getD j 0 ^^^ (rounds m 10 v).getD (j + 8) 0 := fun j hj => by
   rw [← he, List.getD_eq_getElem?_getD, List.getElem?_map, List.getElem?_range hj]; rfl
  obtain ⟨E2, h2⟩ := h1.rowEq (k := 1) rfl (wel e) (fun j hj => absurd hj (by omega))
  exact rbk5 h _ e 0 (by omega) hx (fun n i h8 hi E a w hs => rbk6 h _ e n i h8 hi E a w hs) 0 rfl E2 a1 w1 (h2.tell (by kernel_rfl))
 have p1 : ∀ (d k : Nat) (i : Int), 16 - k = d → i = 4 * k → k ≤ 16 → ∀ E1 a1 w1, Sim (cx Tryd.prog gl w N E []) E1 (rs0 h b t last k i (wel (mW b))) a1 w1 → Goes Tryd.prog 61 (loopAt Tryd.f61 0) (RSpec (cx Tryd.prog gl w N E []) ⟨0, [hD e], []⟩) a1 w1 := by
  intro d
  induction d with
  | zero =>
   intro k i hd hi hk E1 a1 w1 h1
   exact rbk0 h b hb t last k i hi hk h1 (fun hlt => by omega) fun _ E1 a1 w1 h1 => rbk1 h _ hh t ht last h1 p3
  | succ d ih =>
   intro k i hd hi hk E1 a1 w1 h1
   exact rbk0 h b hb t last k i hi hk h1 (fun hlt E1 a1 w1 h1 => ih (k + 1) (i + 4) (by omega) (by omega) (by omega) E1 a1 w1 h1) fun h16 => by omega
 refine gh Q5_ok (k' := loopAt Tryd.f61 0) (s' := mk 0 222 [(0, .d (.list 1 8 (wel h))), (1, .d (.list 1 64 (fun i => D.raw (Value.int IntKind.u8 (b i))))), (2, vI t), (3, vB last), (9, .d (.raw (Value.slice none 0 0))), (10, vI 0)] []) (cs := []) [] [0,1,2,3,9,10] trivial hsim fun E a w hsim => ?_
 obtain ⟨E2, hs⟩ := hsim.nilRow (t := 9) rfl 3 1 (wel (mW b))
 exact p1 16 0 0 rfl rfl (by omega) E2 a w (hs.tell (by kernel_rfl))
end Go.Bla
