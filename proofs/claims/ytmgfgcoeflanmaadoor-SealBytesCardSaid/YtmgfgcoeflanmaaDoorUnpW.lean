/-
  Contracts of given functions, or plain laws that they need. No condition.
-/
import Derived.Test.YtmgfgcoeflanmaaDoorOrdB
import Derived.Test.YtmgfgcoeflanmaaDoorUnpG
import Derived.WalkKit
import Derived.BigCall
import Derived.Shelf.Strconv.Itoa3
import Derived.Shelf.Strconv.ErrVarAll
import Derived.Shelf.Strings.Shaped
import Derived.Lib.AppendIntMem
import Derived.WideLaws
namespace Go.Nest
open Go Go.Eng Go.Proofs Go.RowKit Go.Shelf
set_option linter.unusedVariables false
set_option linter.all false
def laysAtoi_ren : Go.Shelf.Ren := ⟨fun | 172 => 41 | 244 => 50 | 245 => 51 | 247 => 58 | 279 => 59 | 280 => 60 | 281 => 61 | 282 => 62 | 287 => 71 | 316 => 72 | 171 => 39 | 205 => 73 | 321 => 81 | 322 => 82 | 243 => 47 | 246 => 56 | 283 => 66 | 284 => 67 | 285 => 68 | 286 => 69 | 129 => 76 | 317 => 75 | 318 => 77 | 319 => 78 | 320 => 79 | 337 => 83 | 338 => 84 | n => n, fun | 9 => 9 | 3 => 3 | 75 => 82 | 76 => 83 | 4 => 4 | 5 => 5 | 167 => 125 | 37 => 62 | 0 => 0 | 85 => 126 | 2 => 2 | 168 => 128 | 53 => 94 | 175 => 140 | 46 => 77 | 210 => 144 | 127 => 102 | 145 => 158 | 143 => 156 | 21 => 21 | 171 => 135 | 173 => 138 | 212 => 149 | 51 => 92 | 20 => 20 | 213 => 150 | 232 => 99 | 233 => 97 | 80 => 85 | n => n, fun | 15 => 2 | 16 => 3 | 17 => 4 | 18 => 6 | 19 => 7 | n => n⟩
theorem laysAtoi : Go.Proofs.LaysC.n172 Tryd.prog laysAtoi_ren where
  mixed := by kernel_rfl
  f129 := Tryd.func76.trans (congrArg some (by kernel_rfl))
  f171 := Tryd.func39.trans (congrArg some (by kernel_rfl))
  f172 := Tryd.func41.trans (congrArg some (by kernel_rfl))
  f205 := Tryd.func73.trans (congrArg some (by kernel_rfl))
  f243 := Tryd.func47.trans (congrArg some (by kernel_rfl))
  f244 := Tryd.func50.trans (congrArg some (by kernel_rfl))
  f245 := Tryd.func51.trans (congrArg some (by kernel_rfl))
  f246 := Tryd.func56.trans (congrArg some (by kernel_rfl))
  f247 := Tryd.func58.trans (congrArg some (by kernel_rfl))
  f279 := Tryd.func59.trans (congrArg some (by kernel_rfl))
  f280 := Tryd.func60.trans (congrArg some (by kernel_rfl))
  f281 := Tryd.func61.trans (congrArg some (by kernel_rfl))
  f282 := Tryd.func62.trans (congrArg some (by kernel_rfl))
  f283 := Tryd.func66.trans (congrArg some (by kernel_rfl))
  f284 := Tryd.func67.trans (congrArg some (by kernel_rfl))
  f285 := Tryd.func68.trans (congrArg some (by kernel_rfl))
  f286 := Tryd.func69.trans (congrArg some (by kernel_rfl))
  f287 := Tryd.func71.trans (congrArg some (by kernel_rfl))
  f316 := Tryd.func72.trans (congrArg some (by kernel_rfl))
  f317 := Tryd.func75.trans (congrArg some (by kernel_rfl))
  f318 := Tryd.func77.trans (congrArg some (by kernel_rfl))
  f319 := Tryd.func78.trans (congrArg some (by kernel_rfl))
  f320 := Tryd.func79.trans (congrArg some (by kernel_rfl))
  f321 := Tryd.func81.trans (congrArg some (by kernel_rfl))
  f322 := Tryd.func82.trans (congrArg some (by kernel_rfl))
  f337 := Tryd.func83.trans (congrArg some (by kernel_rfl))
  f338 := Tryd.func84.trans (congrArg some (by kernel_rfl))
  t0 := Tryd.underlying0
  a0 := Tryd.isAgg0
  z0 := Tryd.sizeOf0
  v0 := Tryd.zeroValue0
  t2 := Tryd.underlying2
  a2 := Tryd.isAgg2
  z2 := Tryd.sizeOf2
  v2 := Tryd.zeroValue2
  t3 := Tryd.underlying3
  a3 := Tryd.isAgg3
  z3 := Tryd.sizeOf3
  v3 := Tryd.zeroValue3
  t4 := Tryd.underlying4
  a4 := Tryd.isAgg4
  z4 := Tryd.sizeOf4
  v4 := Tryd.zeroValue4
  t5 := Tryd.underlying5
  a5 := Tryd.isAgg5
  z5 := Tryd.sizeOf5
  v5 := Tryd.zeroValue5
  t9 := Tryd.underlying9
  a9 := Tryd.isAgg9
  z9 := Tryd.sizeOf9
  v9 := Tryd.zeroValue9
  t20 := Tryd.underlying20
  a20 := Tryd.isAgg20
  z20 := Tryd.sizeOf20
  v20 := Tryd.zeroValue20
  t21 := Tryd.underlying21
  a21 := Tryd.isAgg21
  z21 := Tryd.sizeOf21
  v21 := Tryd.zeroValue21
  t37 := Tryd.underlying62
  a37 := Tryd.isAgg62
  z37 := Tryd.sizeOf62
  v37 := Tryd.zeroValue62
  t46 := Tryd.underlying77
  a46 := Tryd.isAgg77
  z46 := Tryd.sizeOf77
  v46 := Tryd.zeroValue77
  t51 := Tryd.underlying92
  a51 := Tryd.isAgg92
  z51 := Tryd.sizeOf92
  v51 := Tryd.zeroValue92
  t53 := Tryd.underlying94
  a53 := Tryd.isAgg94
  z53 := Tryd.sizeOf94
  v53 := Tryd.zeroValue94
  t75 := Tryd.underlying82
  a75 := Tryd.isAgg82
  z75 := Tryd.sizeOf82
  v75 := Tryd.zeroValue82
  t76 := Tryd.underlying83
  a76 := Tryd.isAgg83
  z76 := Tryd.sizeOf83
  v76 := Tryd.zeroValue83
  t85 := Tryd.underlying126
  a85 := Tryd.isAgg126
  z85 := Tryd.sizeOf126
  v85 := Tryd.zeroValue126
  t127 := Tryd.underlying102
  a127 := Tryd.isAgg102
  z127 := Tryd.sizeOf102
  v127 := Tryd.zeroValue102
  t143 := Tryd.underlying156
  a143 := Tryd.isAgg156
  z143 := Tryd.sizeOf156
  v143 := Tryd.zeroValue156
  t145 := Tryd.underlying158
  a145 := Tryd.isAgg158
  z145 := Tryd.sizeOf158
  v145 := Tryd.zeroValue158
  t167 := Tryd.underlying125
  a167 := Tryd.isAgg125
  z167 := Tryd.sizeOf125
  v167 := Tryd.zeroValue125
  t168 := Tryd.underlying128
  a168 := Tryd.isAgg128
  z168 := Tryd.sizeOf128
  v168 := Tryd.zeroValue128
  t171 := Tryd.underlying135
  a171 := Tryd.isAgg135
  z171 := Tryd.sizeOf135
  v171 := Tryd.zeroValue135
  t173 := Tryd.underlying138
  a173 := Tryd.isAgg138
  z173 := Tryd.sizeOf138
  v173 := Tryd.zeroValue138
  t175 := Tryd.underlying140
  a175 := Tryd.isAgg140
  z175 := Tryd.sizeOf140
  v175 := Tryd.zeroValue140
  t210 := Tryd.underlying144
  a210 := Tryd.isAgg144
  z210 := Tryd.sizeOf144
  v210 := Tryd.zeroValue144
  t212 := Tryd.underlying149
  a212 := Tryd.isAgg149
  z212 := Tryd.sizeOf149
  v212 := Tryd.zeroValue149
  t213 := Tryd.underlying150
  a213 := Tryd.isAgg150
  z213 := Tryd.sizeOf150
  t232 := Tryd.underlying99
  a232 := Tryd.isAgg99
  z232 := Tryd.sizeOf99
  v232 := Tryd.zeroValue99
  t233 := Tryd.underlying97
  a233 := Tryd.isAgg97
  z233 := Tryd.sizeOf97
  v233 := Tryd.zeroValue97
  g15 := by kernel_rfl
  g16 := by kernel_rfl
  g17 := by kernel_rfl
  g18 := by kernel_rfl
  g19 := by kernel_rfl
  t80 := Tryd.underlying85
  a80 := Tryd.isAgg85
  z80 := Tryd.sizeOf85
  v80 := Tryd.zeroValue85
  i0 := by kernel_rfl
  i2 := by kernel_rfl
  i3 := by kernel_rfl
  i4 := by kernel_rfl
  i5 := by kernel_rfl
  i9 := by kernel_rfl
  i20 := by kernel_rfl
  i21 := by kernel_rfl
  i37 := by kernel_rfl
  i46 := by kernel_rfl
  i51 := by kernel_rfl
  i53 := by kernel_rfl
  i75 := by kernel_rfl
  i76 := by kernel_rfl
  i80 := by kernel_rfl
  i85 := by kernel_rfl
  i127 := by kernel_rfl
  i143 := by kernel_rfl
  i145 := by kernel_rfl
  i167 := by kernel_rfl
  i168 := by kernel_rfl
  i171 := by kernel_rfl
  i173 := by kernel_rfl
  i175 := by kernel_rfl
  i210 := by kernel_rfl
  i212 := by kernel_rfl
  i232 := by kernel_rfl
  i233 := by kernel_rfl
  m15 := by kernel_rfl
  m16 := by kernel_rfl
  m17 := by kernel_rfl
  m18 := by kernel_rfl
  m19 := by kernel_rfl
  c0 := by kernel_rfl
  c2 := by kernel_rfl
  c3 := by kernel_rfl
  c4 := by kernel_rfl
  c5 := by kernel_rfl
  c9 := by kernel_rfl
  c20 := by kernel_rfl
  c21 := by kernel_rfl
  c37 := by kernel_rfl
  c46 := by kernel_rfl
  c51 := by kernel_rfl
  c53 := by kernel_rfl
  c75 := by kernel_rfl
  c76 := by kernel_rfl
  c80 := by kernel_rfl
  c85 := by kernel_rfl
  c127 := by kernel_rfl
  c143 := by kernel_rfl
  c145 := by kernel_rfl
  c167 := by kernel_rfl
  c168 := by kernel_rfl
  c171 := by kernel_rfl
  c173 := by kernel_rfl
  c175 := by kernel_rfl
  c210 := by kernel_rfl
  c212 := by kernel_rfl
  c213 := by kernel_rfl
  c232 := by kernel_rfl
  c233 := by kernel_rfl
def laysCut_ren : Go.Shelf.Ren := ⟨fun | 145 => 57 | 220 => 70 | 219 => 80 | 217 => 85 | 225 => 86 | 224 => 87 | 267 => 88 | 266 => 89 | 314 => 90 | n => n, fun | 9 => 9 | 4 => 4 | 59 => 123 | 3 => 3 | 5 => 5 | 46 => 77 | 146 => 161 | 51 => 92 | 20 => 20 | n => n, fun | 1 => 5 | n => n⟩
theorem laysCut : Go.Proofs.LaysM.n145 Tryd.prog laysCut_ren where
  mixed := by kernel_rfl
  f145 := Tryd.func57.trans (congrArg some (by kernel_rfl))
  f217 := Tryd.func85.trans (congrArg some (by kernel_rfl))
  f219 := Tryd.func80.trans (congrArg some (by kernel_rfl))
  f220 := Tryd.func70.trans (congrArg some (by kernel_rfl))
  f224 := Tryd.func87.trans (congrArg some (by kernel_rfl))
  f225 := Tryd.func86.trans (congrArg some (by kernel_rfl))
  f266 := Tryd.func89.trans (congrArg some (by kernel_rfl))
  f267 := Tryd.func88.trans (congrArg some (by kernel_rfl))
  f314 := Tryd.func90.trans (congrArg some (by kernel_rfl))
  t3 := Tryd.underlying3
  a3 := Tryd.isAgg3
  z3 := Tryd.sizeOf3
  v3 := Tryd.zeroValue3
  t4 := Tryd.underlying4
  a4 := Tryd.isAgg4
  z4 := Tryd.sizeOf4
  v4 := Tryd.zeroValue4
  t5 := Tryd.underlying5
  a5 := Tryd.isAgg5
  z5 := Tryd.sizeOf5
  v5 := Tryd.zeroValue5
  t9 := Tryd.underlying9
  a9 := Tryd.isAgg9
  z9 := Tryd.sizeOf9
  v9 := Tryd.zeroValue9
  t46 := Tryd.underlying77
  a46 := Tryd.isAgg77
  z46 := Tryd.sizeOf77
  v46 := Tryd.zeroValue77
  t51 := Tryd.underlying92
  a51 := Tryd.isAgg92
  z51 := Tryd.sizeOf92
  v51 := Tryd.zeroValue92
  t59 := Tryd.underlying123
  a59 := Tryd.isAgg123
  z59 := Tryd.sizeOf123
  v59 := Tryd.zeroValue123
  t146 := Tryd.underlying161
  a146 := Tryd.isAgg161
  z146 := Tryd.sizeOf161
  v146 := Tryd.zeroValue161
  g1 := by kernel_rfl
  i3 := by kernel_rfl
  i4 := by kernel_rfl
  i5 := by kernel_rfl
  i9 := by kernel_rfl
  i46 := by kernel_rfl
  i51 := by kernel_rfl
  i59 := by kernel_rfl
  i146 := by kernel_rfl
  m1 := by kernel_rfl
  s1_3 := fun w h => Go.Proofs.cell_of_shapedOpen_int (zero := #[.int .i64 0]) (t := 3) h (of_decide_eq_true (by kernel_rfl)) (by kernel_rfl) rfl (by kernel_rfl) (by kernel_rfl) Tryd.underlying3
def laysItoaM_ren : Go.Shelf.Ren := ⟨fun | 171 => 39 | 243 => 47 | 246 => 56 | 283 => 66 | 284 => 67 | 285 => 68 | 286 => 69 | 129 => 76 | 317 => 75 | 318 => 77 | 319 => 78 | 320 => 79 | 337 => 83 | 338 => 84 | n => n, fun | 3 => 3 | 9 => 9 | 2 => 2 | 4 => 4 | 171 => 135 | 0 => 0 | 53 => 94 | 37 => 62 | 5 => 5 | 173 => 138 | 212 => 149 | 51 => 92 | 20 => 20 | 213 => 150 | 46 => 77 | 232 => 99 | 233 => 97 | n => n, fun | 17 => 4 | 18 => 6 | 19 => 7 | n => n⟩
theorem laysItoaM : Go.Proofs.LaysM.n171 Tryd.prog laysItoaM_ren where
  mixed := by kernel_rfl
  f129 := Tryd.func76.trans (congrArg some (by kernel_rfl))
  f171 := Tryd.func39.trans (congrArg some (by kernel_rfl))
  f243 := Tryd.func47.trans (congrArg some (by kernel_rfl))
  f246 := Tryd.func56.trans (congrArg some (by kernel_rfl))
  f283 := Tryd.func66.trans (congrArg some (by kernel_rfl))
  f284 := Tryd.func67.trans (congrArg some (by kernel_rfl))
  f285 := Tryd.func68.trans (congrArg some (by kernel_rfl))
  f286 := Tryd.func69.trans (congrArg some (by kernel_rfl))
  f317 := Tryd.func75.trans (congrArg some (by kernel_rfl))
  f318 := Tryd.func77.trans (congrArg some (by kernel_rfl))
  f319 := Tryd.func78.trans (congrArg some (by kernel_rfl))
  f320 := Tryd.func79.trans (congrArg some (by kernel_rfl))
  f337 := Tryd.func83.trans (congrArg some (by kernel_rfl))
  f338 := Tryd.func84.trans (congrArg some (by kernel_rfl))
  t0 := Tryd.underlying0
  a0 := Tryd.isAgg0
  z0 := Tryd.sizeOf0
  v0 := Tryd.zeroValue0
  t2 := Tryd.underlying2
  a2 := Tryd.isAgg2
  z2 := Tryd.sizeOf2
  v2 := Tryd.zeroValue2
  t3 := Tryd.underlying3
  a3 := Tryd.isAgg3
  z3 := Tryd.sizeOf3
  v3 := Tryd.zeroValue3
  t4 := Tryd.underlying4
  a4 := Tryd.isAgg4
  z4 := Tryd.sizeOf4
  v4 := Tryd.zeroValue4
  t5 := Tryd.underlying5
  a5 := Tryd.isAgg5
  z5 := Tryd.sizeOf5
  v5 := Tryd.zeroValue5
  t9 := Tryd.underlying9
  a9 := Tryd.isAgg9
  z9 := Tryd.sizeOf9
  v9 := Tryd.zeroValue9
  t20 := Tryd.underlying20
  a20 := Tryd.isAgg20
  z20 := Tryd.sizeOf20
  v20 := Tryd.zeroValue20
  t37 := Tryd.underlying62
  a37 := Tryd.isAgg62
  z37 := Tryd.sizeOf62
  v37 := Tryd.zeroValue62
  t46 := Tryd.underlying77
  a46 := Tryd.isAgg77
  z46 := Tryd.sizeOf77
  v46 := Tryd.zeroValue77
  t51 := Tryd.underlying92
  a51 := Tryd.isAgg92
  z51 := Tryd.sizeOf92
  v51 := Tryd.zeroValue92
  t53 := Tryd.underlying94
  a53 := Tryd.isAgg94
  z53 := Tryd.sizeOf94
  v53 := Tryd.zeroValue94
  t171 := Tryd.underlying135
  a171 := Tryd.isAgg135
  z171 := Tryd.sizeOf135
  v171 := Tryd.zeroValue135
  t173 := Tryd.underlying138
  a173 := Tryd.isAgg138
  z173 := Tryd.sizeOf138
  v173 := Tryd.zeroValue138
  t212 := Tryd.underlying149
  a212 := Tryd.isAgg149
  z212 := Tryd.sizeOf149
  v212 := Tryd.zeroValue149
  t213 := Tryd.underlying150
  a213 := Tryd.isAgg150
  z213 := Tryd.sizeOf150
  t232 := Tryd.underlying99
  a232 := Tryd.isAgg99
  z232 := Tryd.sizeOf99
  v232 := Tryd.zeroValue99
  t233 := Tryd.underlying97
  a233 := Tryd.isAgg97
  z233 := Tryd.sizeOf97
  v233 := Tryd.zeroValue97
  g17 := by kernel_rfl
  g18 := by kernel_rfl
  g19 := by kernel_rfl
  i0 := by kernel_rfl
  i2 := by kernel_rfl
  i3 := by kernel_rfl
  i4 := by kernel_rfl
  i5 := by kernel_rfl
  i9 := by kernel_rfl
  i20 := by kernel_rfl
  i37 := by kernel_rfl
  i46 := by kernel_rfl
  i51 := by kernel_rfl
  i53 := by kernel_rfl
  i171 := by kernel_rfl
  i173 := by kernel_rfl
  i212 := by kernel_rfl
  i232 := by kernel_rfl
  i233 := by kernel_rfl
  m17 := by kernel_rfl
  m18 := by kernel_rfl
  m19 := by kernel_rfl
/-- What is known of the library's variables, in every world from w on. -/
structure LibW (w : World) : Prop where
  tab : Lib.TabBelow Tryd.prog w.heap.size w "internal/strconv.uint64pow10" .u64 Lib.pow10Tab
  mx : ∃ m, w.cell? ⟨laysCut_ren.g 1, 0, none⟩ = some (.int .i64 m)
  es : ∃ ev, w.cell? ⟨laysAtoi_ren.g 15, 0, none⟩ = some ev ∧ (ev = .nilIface ∨ ∃ te pe, ev = .iface te pe)
  er : ∃ ev, w.cell? ⟨laysAtoi_ren.g 16, 0, none⟩ = some ev ∧ (ev = .nilIface ∨ ∃ te pe, ev = .iface te pe)
theorem LibW.below {w w' : World} (h : LibW w) (hb : Below w.heap.size w w') : LibW w' := by
  have key : ∀ (g : Nat) v, w.cell? ⟨g, 0, none⟩ = some v → w'.cell? ⟨g, 0, none⟩ = some v := fun g v hc => by
    have hg : g < w.heap.size := by
      unfold World.cell? at hc
      rcases Nat.lt_or_ge g w.heap.size with h | h
      · exact h
      · rw [show w.heap[g]? = none from Array.getElem?_eq_none (by omega)] at hc; cases hc
    exact (hb.cell (p := ⟨g, 0, none⟩) hg).trans hc
  obtain ⟨m, hm⟩ := h.mx
  obtain ⟨e1, h1, h1'⟩ := h.es
  obtain ⟨e2, h2, h2'⟩ := h.er
  refine ⟨fun w2 hb2 => h.tab w2 (hb.trans (hb2.mono hb.size)), ⟨m, key _ _ hm⟩, ⟨e1, key _ _ h1, h1'⟩, ⟨e2, key _ _ h2, h2'⟩⟩
/-- The table. -/
def LibT (w : World) : Prop := Lib.TabBelow Tryd.prog w.heap.size w "internal/strconv.uint64pow10" .u64 Lib.pow10Tab
theorem LibT.below {w w' : World} (h : LibT w) (hb : Below w.heap.size w w') : LibT w' := fun w2 hb2 => h w2 (hb.trans (hb2.mono hb.size))
theorem num_walk (n : Int) (h0 : -9223372036854775808 ≤ n) (h1 : n ≤ 9223372036854775807) (w : World) (hL : LibT w) : Calls Tryd.prog 28 #[.int .i64 n] w fun e w' => e = .returned (.string ⟨(Lib.itoa n).toArray⟩) ∧ Below w.heap.size w w' := by
  go_enter Tryd.func28, Tryd.ntmps28
  go_wp2_with (go_at_call 39; refine (Any.strconv_Itoa laysItoaM n h0 h1 _ (Lib.TabBelow.here hL)).mono ?_; rintro e w1 ⟨rfl, k, os, rfl⟩)
  go_ret
  exact ⟨rfl, Lib.below_grow _ w (Nat.le_refl _) k os⟩
theorem toNum_walk (s : ByteArray) (hs : s.size ≤ 281474976710656) (w : World) (hL : LibW w) : Calls Tryd.prog 32 #[.string s] w fun e w' => e = .returned (.tuple #[.int .i64 (numM s).1, .int .i64 (numM s).2]) ∧ Below w.heap.size w w' := by
  obtain ⟨e1, h1, h1'⟩ := hL.es
  obtain ⟨e2, h2, h2'⟩ := hL.er
  go_enter Tryd.func32, Tryd.ntmps32
  rcases hA : Lib.atoiAll s.data.toList with v | _ | _
  · skip
    have hb := Lib.atoiAll_bounds hA
    go_wp2_with (go_at_call 41; refine (Any.strconv_Atoi_ok laysAtoi s (by omega) v hA _).mono ?_)
    rintro e w1 ⟨rfl, hw1⟩
    have b1 : Below w.heap.size w w1 := by
      rcases hw1 with rfl | ⟨t, rfl⟩
      · exact Below.refl _ _
      · exact Lib.bytesWorld_below _ _ _
    go_wp2_with (go_at_call 28; refine (num_walk v (by omega) (by omega) _ (LibW.tab (hL.below b1))).mono ?_; rintro e w2 ⟨rfl, b2⟩)
    · rename_i hx
      go_ret2
      refine ⟨?_, b1.trans (b2.mono b1.size)⟩
      have e : numM s = (0, 4) := by unfold numM; rw [hA]; simp only [hx, if_true]
      rw [e]; rfl
    · rename_i hx
      go_ret2
      refine ⟨?_, b1.trans (b2.mono b1.size)⟩
      have e : numM s = (v, 0) := by unfold numM; rw [hA]; simp only [hx, if_false, Bool.false_eq_true]
      rw [e]; rfl
  · skip
    go_wp2_with (go_at_call 41; refine (Any.strconv_Atoi_syntax laysAtoi s hs hA e1 _ h1 h1').mono ?_; rintro e w1 ⟨N, rfl, hN, hc, hb⟩)
    · go_ret2
      have e : numM s = (0, 4) := by unfold numM; rw [hA]
      exact ⟨by rw [e]; rfl, hb⟩
  · skip
    go_wp2_with (go_at_call 41; refine (Any.strconv_Atoi_range laysAtoi s hs hA e2 _ h2 h2').mono ?_; rintro e w1 ⟨N, rfl, hN, hc, hb⟩)
    · go_ret2
      have e : numM s = (0, 4) := by unfold numM; rw [hA]
      exact ⟨by rw [e]; rfl, hb⟩
/-- The library's variables as they are told to the engine. -/
def ErrV (e : Value) : Prop := e.oneCell' = true ∧ (e = .nilIface ∨ ∃ te pe, e = .iface te pe)
theorem vcs_raw_inv {w : World} {N : Nat → Prop} : ∀ (vs us : List Value), VCs w N (vs.map D.raw) us → us = vs
  | [], us, h => by unfold VCs at h; exact h
  | v :: vs, us, h => by
    rw [List.map_cons] at h
    unfold VCs at h
    obtain ⟨a, b, rfl, _, h1, h2⟩ := h
    rw [vcs_raw_inv vs b h2]
    unfold VC at h1
    have := h1.1
    simp at this
    rw [this]
theorem libT_of {w : World} {N : Nat → Prop} (hg : ∀ g cs, glP g = some cs → N g ∧ ∃ us, VCs w N cs us ∧ (∀ j u, us[j]? = some u → w.cell? ⟨g, j, none⟩ = some u) ∧ (cs.length ≠ 1 → wholeOf w g = some us.toArray)) : LibT w := by
  obtain ⟨-, us, h3, h4, h5⟩ := hg 4 _ rfl
  have hu : us = Lib.pow10Tab.map (Value.int .u64) := vcs_raw_inv _ us (by rw [List.map_map]; exact h3)
  refine Lib.tabBelow_of_tabIs ?_
  have h6 := h5 (by decide)
  rw [hu] at h6
  unfold Lib.TabIs World.var?
  rw [show Tryd.prog.globalNamed "internal/strconv.uint64pow10" = some 4 from by kernel_rfl]
  exact h6
theorem libW_of {w : World} {N : Nat → Prop} {m : Int} {e1 e2 : Value} (h1 : ErrV e1) (h2 : ErrV e2) (hg : ∀ g cs, glU m e1 e2 g = some cs → N g ∧ ∃ us, VCs w N cs us ∧ (∀ j u, us[j]? = some u → w.cell? ⟨g, j, none⟩ = some u) ∧ (cs.length ≠ 1 → wholeOf w g = some us.toArray)) : LibW w := by
  have one : ∀ (g : Nat) (v : Value), glU m e1 e2 g = some [.raw v] → w.cell? ⟨g, 0, none⟩ = some v := fun g v e => by
    obtain ⟨-, us, h3, h4, -⟩ := hg g _ e
    rw [vcs_raw_inv [v] us h3] at h4
    exact h4 0 v rfl
  obtain ⟨-, us, h3, h4, h5⟩ := hg 4 _ rfl
  have hu : us = Lib.pow10Tab.map (Value.int .u64) := vcs_raw_inv _ us (by rw [List.map_map]; exact h3)
  refine ⟨Lib.tabBelow_of_tabIs ?_, ⟨m, one _ _ rfl⟩, ⟨e1, one _ _ rfl, h1.2⟩, ⟨e2, one _ _ rfl, h2.2⟩⟩
  have h6 := h5 (by decide)
  rw [hu] at h6
  unfold Lib.TabIs World.var?
  rw [show Tryd.prog.globalNamed "internal/strconv.uint64pow10" = some 4 from by kernel_rfl]
  exact h6
theorem cut_ok (m : Int) (e1 e2 : Value) (h1 : ErrV e1) (h2 : ErrV e2) (s : ByteArray) (hs : s.size ≤ 1073741824) : Eng.Spec Tryd.prog (glU m e1 e2) 57 [.d (.raw (.string s)), .d (.raw (.string ⟨#[58]⟩))] [] (.tup [.d (.raw (.string (headM s))), .d (.raw (.string (restM s))), .d (.raw (.bool (foundM s)))]) [] := by
  refine Spec.pureG fun w N E vs hg hvs hN => ?_
  have hL := libW_of h1 h2 hg
  obtain ⟨m, hm⟩ := hL.mx
  rw [VAs_cons] at hvs
  obtain ⟨v, us, rfl, hv, hus⟩ := hvs
  rw [VAs_cons] at hus
  obtain ⟨v2, us2, rfl, hv2, hus2⟩ := hus
  obtain rfl : us2 = [] := by unfold VAs at hus2; exact hus2
  unfold VA at hv hv2
  obtain rfl := (VD_raw_inv hv).1
  obtain rfl := (VD_raw_inv hv2).1
  refine (Any.strings_Cut { laysCut with } s ⟨#[58]⟩ m w (by omega) hm).mono ?_
  rintro e w1 ⟨rfl, k, rfl⟩
  refine ⟨_, rfl, ⟨rfl, rfl, rfl, Nat.le_refl _, fun _ _ => rfl⟩, ?_⟩
  unfold VA; exact ⟨[_, _, _], rfl, vas_cons (VD_raw rfl) (vas_cons (VD_raw rfl) (vas_cons (VD_raw rfl) vas_nil))⟩
theorem toNum_ok (m : Int) (e1 e2 : Value) (h1 : ErrV e1) (h2 : ErrV e2) (s : ByteArray) (hs : s.size ≤ 1073741824) : Eng.Spec Tryd.prog (glU m e1 e2) 32 [.d (.raw (.string s))] [] (.tup [.d (.raw (.int .i64 (numM s).1)), .d (.raw (.int .i64 (numM s).2))]) [] := by
  refine Spec.pureG fun w N E vs hg hvs hN => ?_
  have hL := libW_of h1 h2 hg
  rw [VAs_cons] at hvs
  obtain ⟨v, us, rfl, hv, hus⟩ := hvs
  obtain rfl : us = [] := by unfold VAs at hus; exact hus
  unfold VA at hv
  obtain rfl := (VD_raw_inv hv).1
  refine (toNum_walk s (by omega) w hL).mono ?_
  rintro e w1 ⟨rfl, hb⟩
  refine ⟨_, rfl, hb, ?_⟩
  unfold VA; exact ⟨[_, _], rfl, vas_cons (VD_raw rfl) (vas_cons (VD_raw rfl) vas_nil)⟩
end Go.Nest
