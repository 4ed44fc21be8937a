/- Joined texts: WO WP. -/
import Derived.Test.YtphlojgmfkgeiaaGreatDoorKa
import Derived.Test.YtphlojgmfkgeiaaGreatDoorKm
import Derived.Test.YtphlojgmfkgeiaaGreatDoorKh
import Derived.Test.YtphlojgmfkgeiaaGreatDoorKe
import Derived.Laws.OwnMore
/- Reference: a yard with lists of its own. -/
namespace Go.Proofs.YtphlojgmfkgeiaaGreatDoor
open Go.RowKit Go.Sort Go.Shelf
set_option linter.unusedSimpArgs false
set_option linter.unusedVariables false
attribute [local go_sem] cell_if frozen_if grow_cell
def rdyO (p0 q0 p1 q1 p2 q2 : Bool) : List Nat := (if p0 then [] else [0]) ++ (if p0 && !q0 then [3] else []) ++ (if p1 then [] else [4]) ++ (if p1 && !q1 && q0 then [7] else []) ++ (if p2 then [] else [8]) ++ (if p2 && !q2 && q1 then [11] else [])
def cnt (p q : Bool) : Nat := (!p).toNat + (!q).toNat
theorem mem_rdy {r s : List Nat} {i : Nat} (hi : i ∈ r) (h : r = s) : i ∈ s := h ▸ hi
theorem wpOp_plainK {P : Program} {ops : Array Oper} {Q : Exit → Act → World → Prop} {i : Nat} {o : Oper} {a : Act} {w : World} {K : Act → World → Prop} (ho : ops[i]? = some o) (hg : o.guard = none) (h : ∀ K' : Act → World → Prop, (∀ a w, K a w → K' a w) → o.wp P a w K' Q) : wpOp P ops Q i K a w :=
  wpOp_plain ho hg (h K fun _ _ h => h)
section
variable {T0 T1 T2 : TypeId} {base : Nat} {y : Yd} {A0 A1 A2 : Option Addr} {c0 c1 c2 g : Nat} {w w' : World}
theorem OwRow.kept (h : OwRow T0 T1 T2 base y A0 A1 A2 c0 c1 c2 w) (hb : Below w.heap.size w w') : OwRow T0 T1 T2 base y A0 A1 A2 c0 c1 c2 w' := ⟨own_kept h.r0 hb, own_kept h.r1 hb, own_kept h.r2 hb⟩
theorem OwRow.low {base' : Nat} (h : OwRow T0 T1 T2 base y A0 A1 A2 c0 c1 c2 w) (hb : base' ≤ base) : OwRow T0 T1 T2 base' y A0 A1 A2 c0 c1 c2 w := ⟨row_base h.r0 hb, row_base h.r1 hb, row_base h.r2 hb⟩
theorem OwRow.far {k i : Nat} {t : TypeId} {c : Array Value} (h : OwRow T0 T1 T2 base y A0 A1 A2 c0 c1 c2 w) (hk : Blk w k t c) (u : Value) (h0 : T0 ≠ t) (h1 : T1 ≠ t) (h2 : T2 ≠ t) : OwRow T0 T1 T2 base y A0 A1 A2 c0 c1 c2 (w.setCell ⟨k, i, none⟩ u) := ⟨row_set h.r0 hk h0, row_set h.r1 hk h1, row_set h.r2 hk h2⟩
end
set_option maxRecDepth 100000 in
set_option maxHeartbeats 4000000 in
theorem rOwn_any (B : Nat) (A0 A1 A2 : Option Addr) (n0 n1 n2 c0 c1 c2 : Nat) (y : Yd) (w : World) (hY : YdAt w B A0 A1 A2 n0 n1 n2 y) (hB : B ≤ w.heap.size) (h0 : n0 ≤ 1000) (h1 : n1 ≤ 1000) (h2 : n2 ≤ 1000) :
    Calls Tryz.prog 124 #[.agg #[.slice A0 n0 c0, .slice A1 n1 c1, .slice A2 n2 c2]] w (OwRes 66 68 72 w y) := by
  have hl0 := (sec_at hY.hs).1
  have hl1 := (sw_at hY.hw).1
  have hl2 := (pm_at hY.hp).1
  have HY := Lib.hid hY
  have HL0 := Lib.hid hl0
  have HL1 := Lib.hid hl1
  have HL2 := Lib.hid hl2
  clear hY hl0 hl1 hl2
  go_enter Tryz.func124, Tryz.ntmps124
  go_wp2_with fail
  have hW0 : Hid (Below w.heap.size w ((w.alloc (.cells #[.slice A0 n0 c0, .slice A1 n1 c1, .slice A2 n2 c2] 26)).alloc (.cells #[.slice none 0 0, .slice none 0 0, .slice none 0 0] 26))) := Lib.hid bl_
  have hZ0 : Hid (Blk ((w.alloc (.cells #[.slice A0 n0 c0, .slice A1 n1 c1, .slice A2 n2 c2] 26)).alloc (.cells #[.slice none 0 0, .slice none 0 0, .slice none 0 0] 26)) (w.heap.size + 1) 26 #[.slice none 0 0, .slice none 0 0, .slice none 0 0]) := Lib.hid bk_
  have hS0 : Hid (((w.alloc (.cells #[.slice A0 n0 c0, .slice A1 n1 c1, .slice A2 n2 c2] 26)).alloc (.cells #[.slice none 0 0, .slice none 0 0, .slice none 0 0] 26)).heap.size = w.heap.size + 1 + 1) := Lib.hid (by simp)
  (refine wp_region_calm [w.heap.size + 1] [1, 2, 5, 6, 9, 10] 8 (by kernel_rfl) rfl (by kernel_rfl) (by kernel_rfl) (by kernel_rfl) ?_; simp only [pickB, List.filterMap_cons, List.filterMap_nil, List.getElem?_toArray, List.getElem?_cons_zero, List.getElem?_cons_succ]; (repeat (first | ((with_reducible refine quietL_plain rfl (fun K hK => ?_)); (apply Exists.intro; refine ⟨fun wx hx => ?_, ?_⟩; (· (have hcx := ifs_ex hx); simp [go_sem, *, ↓IntWalk.iteOmega] <;> (first | rfl | exact ⟨rfl, rfl⟩ | fail)); (simp only [Act.put, List.setIfInBounds_toArray, List.set_cons_zero, List.set_cons_succ]; refine hK _ ?_; clear hK K))) | ((with_reducible refine quietL_skip (by with_unfolding_all rfl) ?_); simp only [Act.put, List.setIfInBounds_toArray, List.set_cons_zero, List.set_cons_succ]) | ((with_reducible refine quietL_want (by with_unfolding_all rfl) (fun K hK => ?_)); (apply Exists.intro; refine ⟨fun wx hx => ?_, ?_⟩; (· (have hcx := ifs_ex hx); simp [go_sem, *, ↓IntWalk.iteOmega] <;> (first | rfl | exact ⟨rfl, rfl⟩ | fail)); (simp only [Act.put, List.setIfInBounds_toArray, List.set_cons_zero, List.set_cons_succ]; refine hK _ ?_; clear hK K))))); refine quietL_nil ?_)
  generalize ((w.alloc (.cells #[.slice A0 n0 c0, .slice A1 n1 c1, .slice A2 n2 c2] 26)).alloc (.cells #[.slice none 0 0, .slice none 0 0, .slice none 0 0] 26)) = W0 at *
  refine anyB_inv (fun m l a W => ∃ p0 q0 p1 q1 p2 q2 : Bool, ∃ u0 v0 u1 v1 u2 v2 : Value, l = #[p0, true, true, q0, p1, true, true, q1, p2, true, true, q2, false, false] ∧ m = cnt p0 q0 + cnt p1 q1 + cnt p2 q2 ∧ (q0 = true → p0 = true) ∧ (q1 = true → p1 = true ∧ q0 = true) ∧ (q2 = true → p2 = true ∧ q1 = true) ∧ a = { tmps := #[.agg #[.slice A0 n0 c0, .slice A1 n1 c1, .slice A2 n2 c2], .pointer (some ⟨w.heap.size, 0, none⟩), .pointer (some ⟨w.heap.size + 1, 0, none⟩), u0, .pointer (some ⟨w.heap.size, 0, none⟩), .slice A0 n0 c0, v0, u1, .pointer (some ⟨w.heap.size, 1, none⟩), .slice A1 n1 c1, v1, u2, .pointer (some ⟨w.heap.size, 2, none⟩), .slice A2 n2 c2, v2, undef], defers := [] } ∧ Fl W0.heap.size 66 2 n0 (secs y.s) p0 q0 u0 v0 W ∧ Fl W0.heap.size 68 5 n1 (sws y.w) p1 q1 u1 v1 W ∧ Fl W0.heap.size 72 2 n2 (pms y.p) p2 q2 u2 v2 W ∧ Below W0.heap.size W0 W) 2 ?grow ?ne ?step ?fin 6 _ _ _ ?start
  case grow =>
    rintro m l a W W' ⟨p0, q0, p1, q1, p2, q2, u0, v0, u1, v1, u2, v2, hl, hm, g0, g1, g2, ha, f0, f1, f2, hb⟩ hW
    exact ⟨p0, q0, p1, q1, p2, q2, u0, v0, u1, v1, u2, v2, hl, hm, g0, g1, g2, ha, f0.kept hW, f1.kept hW, f2.kept hW, hb.trans (hW.mono hb.size)⟩
  case ne =>
    rintro m l a W ⟨p0, q0, p1, q1, p2, q2, u0, v0, u1, v1, u2, v2, rfl, hm, g0, g1, g2, rfl, _, _, _, _⟩ h
    cases p0 <;> cases q0 <;> (first | (exfalso; have := g0 rfl; simp at this; done) | skip) <;> cases p1 <;> cases q1 <;> (first | (exfalso; have := g1 rfl; simp at this; done) | skip) <;> cases p2 <;> cases q2 <;> (first | (exfalso; have := g2 rfl; simp at this; done) | (exfalso; simp [cnt] at hm; done) | skip)
    all_goals (revert h; exact (by decide +kernel))
  case step =>
    rintro m l a W ⟨p0, q0, p1, q1, p2, q2, u0, v0, u1, v1, u2, v2, rfl, hm, g0, g1, g2, rfl, f0, f1, f2, hb⟩ i hi
    have hwW : Below w.heap.size w W := hW0.out.trans (hb.mono hW0.out.size)
    have hsW := hb.size
    have hi2 : i ∈ rdyO p0 q0 p1 q1 p2 q2 := by
      clear f0 f1 f2 hb hwW
      cases p0 <;> cases q0 <;> (first | (exfalso; have := g0 rfl; simp at this; done) | skip) <;> cases p1 <;> cases q1 <;> (first | (exfalso; have := g1 rfl; simp at this; done) | skip) <;> cases p2 <;> cases q2 <;> (first | (exfalso; have := g2 rfl; simp at this; done) | (exfalso; simp [cnt] at hm; done) | skip)
      all_goals exact (by decide +kernel : ∀ j ∈ Region.ready _ _ _, j ∈ rdyO _ _ _ _ _ _) i hi
    clear hi
    have hdis : (i = 0 ∧ p0 = false) ∨ (i = 3 ∧ p0 = true ∧ q0 = false) ∨ (i = 4 ∧ p1 = false) ∨ (i = 7 ∧ p1 = true ∧ q1 = false ∧ q0 = true) ∨ (i = 8 ∧ p2 = false) ∨ (i = 11 ∧ p2 = true ∧ q2 = false ∧ q1 = true) := by
      clear f0 f1 f2 hm hb hwW g0 g1 g2
      revert hi2
      cases p0 <;> cases q0 <;> cases p1 <;> cases q1 <;> cases p2 <;> cases q2 <;> (simp [rdyO] <;> omega)
    clear hi2
    rcases hdis with ⟨rfl, rfl⟩ | ⟨rfl, rfl, rfl⟩ | ⟨rfl, rfl⟩ | ⟨rfl, rfl, rfl, rfl⟩ | ⟨rfl, rfl⟩ | ⟨rfl, rfl, rfl, rfl⟩
    · obtain rfl : q0 = false := by cases q0 with | false => rfl | true => exact absurd (g0 rfl) (by simp)
      refine wpOp_plainK (o := _) rfl rfl ?_
      intro K hK
      go_wp2
      refine ⟨Ex.of_below bl_, true, false, p1, q1, p2, q2, _, v0, u1, v1, u2, v2, rfl, ?_, (fun h => by cases h), g1, g2, rfl, Fl.lit hb.size, f1.kept bl_, f2.kept bl_, bl_⟩
      simp [cnt] at hm ⊢
      omega
    · obtain ⟨b, rfl, hown⟩ := f0.1 rfl rfl
      refine wpOp_plainK (o := _) rfl rfl ?_
      intro K hK
      refine wp_spread 22 66 2 24 elemSecR (.tmp 3) (.tmp 5) rfl W0.heap.size b rfl hown A0 n0 c0 B (secs y.s) rfl (HY.out.below (hwW.mono hB)).hs (secs_one _) (by unfold maxLen; omega) (by omega) hb.size ?_
      intro v' w' hown' hg hv
      have hb' : Below W0.heap.size W0 w' := hb.grown hg hb.size (fun k e => by cases e; exact hown.lt.1)
      refine hK _ _ ⟨Ex.of_below hb', true, true, p1, q1, p2, q2, _, v', u1, v1, u2, v2, rfl, ?_, (fun _ => rfl), (fun h => ⟨(g1 h).1, rfl⟩), g2, rfl, Fl.put rfl hown', f1.other hown (by decide) hg, f2.other hown (by decide) hg, hb'⟩
      simp [cnt] at hm ⊢
      omega
    · obtain rfl : q1 = false := by cases q1 with | false => rfl | true => exact absurd (g1 rfl) (by simp)
      refine wpOp_plainK (o := _) rfl rfl ?_
      intro K hK
      go_wp2
      refine ⟨Ex.of_below bl_, p0, q0, true, false, p2, q2, u0, v0, _, v1, u2, v2, rfl, ?_, g0, (fun h => by cases h), g2, rfl, f0.kept bl_, Fl.lit hb.size, f2.kept bl_, bl_⟩
      simp [cnt] at hm ⊢
      omega
    · obtain ⟨b, rfl, hown⟩ := f1.1 rfl rfl
      refine wpOp_plainK (o := _) rfl rfl ?_
      intro K hK
      refine wp_spread 23 68 5 56 elemSwR (.tmp 7) (.tmp 9) rfl W0.heap.size b rfl hown A1 n1 c1 B (sws y.w) rfl (HY.out.below (hwW.mono hB)).hw (sws_one _) (by unfold maxLen; omega) (by omega) hb.size ?_
      intro v' w' hown' hg hv
      have hb' : Below W0.heap.size W0 w' := hb.grown hg hb.size (fun k e => by cases e; exact hown.lt.1)
      refine hK _ _ ⟨Ex.of_below hb', p0, true, true, true, p2, q2, u0, v0, _, v', u2, v2, rfl, ?_, g0, (fun _ => ⟨rfl, rfl⟩), (fun h => ⟨(g2 h).1, rfl⟩), rfl, f0.other hown (by decide) hg, Fl.put rfl hown', f2.other hown (by decide) hg, hb'⟩
      simp [cnt] at hm ⊢
      omega
    · obtain rfl : q2 = false := by cases q2 with | false => rfl | true => exact absurd (g2 rfl) (by simp)
      refine wpOp_plainK (o := _) rfl rfl ?_
      intro K hK
      go_wp2
      refine ⟨Ex.of_below bl_, p0, q0, p1, q1, true, false, u0, v0, u1, v1, _, v2, rfl, ?_, g0, g1, (fun h => by cases h), rfl, f0.kept bl_, f1.kept bl_, Fl.lit hb.size, bl_⟩
      simp [cnt] at hm ⊢
      omega
    · obtain ⟨b, rfl, hown⟩ := f2.1 rfl rfl
      refine wpOp_plainK (o := _) rfl rfl ?_
      intro K hK
      refine wp_spread 24 72 2 24 elemPmR (.tmp 11) (.tmp 13) rfl W0.heap.size b rfl hown A2 n2 c2 B (pms y.p) rfl (HY.out.below (hwW.mono hB)).hp (pms_one _) (by unfold maxLen; omega) (by omega) hb.size ?_
      intro v' w' hown' hg hv
      have hb' : Below W0.heap.size W0 w' := hb.grown hg hb.size (fun k e => by cases e; exact hown.lt.1)
      refine hK _ _ ⟨Ex.of_below hb', p0, q0, p1, true, true, true, u0, v0, u1, v1, _, v', rfl, ?_, g0, g1, (fun _ => ⟨rfl, rfl⟩), rfl, f0.other hown (by decide) hg, f1.other hown (by decide) hg, Fl.put rfl hown', hb'⟩
      simp [cnt] at hm ⊢
      omega
  case fin =>
    rintro l a W ⟨p0, q0, p1, q1, p2, q2, u0, v0, u1, v1, u2, v2, rfl, hm, g0, g1, g2, rfl, f0, f1, f2, hb⟩
    obtain ⟨rfl, rfl, rfl, rfl, rfl, rfl⟩ : p0 = true ∧ q0 = true ∧ p1 = true ∧ q1 = true ∧ p2 = true ∧ q2 = true := by
      clear f0 f1 f2 g0 g1 g2 hb
      cases p0 <;> cases q0 <;> cases p1 <;> cases q1 <;> cases p2 <;> cases q2 <;> simp [cnt] at hm ⊢
    have r0 : W.ownsRow W0.heap.size 66 2 v0 y.s.length (secs y.s) := by rw [HL0.out]; exact f0.2 rfl
    have r1 : W.ownsRow W0.heap.size 68 5 v1 y.w.length (sws y.w) := by rw [HL1.out]; exact f1.2 rfl
    have r2 : W.ownsRow W0.heap.size 72 2 v2 y.p.length (pms y.p) := by rw [HL2.out]; exact f2.2 rfl
    obtain ⟨A0', c0', rfl, _, _, _⟩ := own_form r0
    obtain ⟨A1', c1', rfl, _, _, _⟩ := own_form r1
    obtain ⟨A2', c2', rfl, _, _, _⟩ := own_form r2
    have HR := Lib.hid (⟨r0, r1, r2⟩ : OwRow 66 68 72 W0.heap.size y A0' A1' A2' c0' c1' c2' W)
    have HB := Lib.hid (hW0.out.trans (hb.mono hW0.out.size))
    have hxW : Ex [w.heap.size + 1] W0 W := Ex.of_below hb
    have BZ := Lib.hid (hZ0.out.kept hb)
    have hs0 := hS0.out
    have hsW := hb.size
    clear f0 f1 f2 g0 g1 g2 hm r0 r1 r2 hb
    (refine anyB_one (i := 12) (by kernel_rfl) rfl rfl ?_; intro w1 hb1 K hK; obtain ⟨hc1, hf1⟩ := ifs_of hb1; have hs1 := hb1.size; (try simp at hs1); go_wp2; refine ⟨xs_, ?_⟩)
    refine anyB_one (i := 13) (by kernel_rfl) rfl rfl ?_
    intro w2 hb2 K hK
    have hs2 := hb2.size
    have hW2 := Lib.hid (bl_ : Below W.heap.size W w2)
    have bz2 := BZ.out.kept hW2.out
    have BZ2 := Lib.hid bz2
    have c2 := bz2.cell
    have f2 := bz2.frozen
    have l2 := bz2.lt
    clear bz2
    go_wp2
    refine ⟨Ex.set_in (.inl (by simp)) (Ex.set_in (.inl (by simp)) (Ex.set_in (.inl (by simp)) xs_ _) _) _, ?_⟩
    refine anyB_end (by kernel_rfl) ?_
    intro w3 hb3
    simp only [Calm]
    have bz3 := (((BZ2.out.set_ 0 (.slice A0' y.s.length c0')).set_ 1 (.slice A1' y.w.length c1')).set_ 2 (.slice A2' y.p.length c2')).kept hb3
    have hR3 := ((((HR.out.kept hW2.out).far (i := 0) BZ2.out (.slice A0' y.s.length c0') (by decide) (by decide) (by decide)).far (i := 1) (BZ2.out.set_ 0 _) (.slice A1' y.w.length c1') (by decide) (by decide) (by decide)).far (i := 2) ((BZ2.out.set_ 0 _).set_ 1 _) (.slice A2' y.p.length c2') (by decide) (by decide) (by decide)).kept hb3
    have hbl2 : Below w.heap.size w w2 := HB.out.trans (hW2.out.mono HB.out.size)
    have hbl3 := (((hbl2.setCell (p := ⟨w.heap.size + 1, 0, none⟩) (by simp) (.slice A0' y.s.length c0')).setCell (p := ⟨w.heap.size + 1, 1, none⟩) (by simp) (.slice A1' y.w.length c1')).setCell (p := ⟨w.heap.size + 1, 2, none⟩) (by simp) (.slice A2' y.p.length c2')).trans (hb3.mono (by have := hbl2.size; simp [World.setCell]; omega))
    have ck := bz3.cell
    have HA := Lib.hid (And.intro (hR3.low (base' := w.heap.size) (by omega)) hbl3)
    clear hR3 hbl3 hbl2 hb3 bz3 c2 f2
    go_wp2_with fail
    refine bodyPost_ret (v := .agg #[.slice A0' y.s.length c0', .slice A1' y.w.length c1', .slice A2' y.p.length c2']) (by simp [results, Tryz.results124, go_sem, ck]) rfl ?_
    exact ⟨A0', A1', A2', c0', c1', c2', rfl, HA.out.1, HA.out.2⟩
  case start => exact ⟨false, false, false, false, false, false, _, _, _, _, _, _, rfl, rfl, (fun h => by cases h), (fun h => by cases h), (fun h => by cases h), rfl, ⟨fun h => (by cases h), fun h => (by cases h)⟩, ⟨fun h => (by cases h), fun h => (by cases h)⟩, ⟨fun h => (by cases h), fun h => (by cases h)⟩, Below.refl _ _⟩
end Go.Proofs.YtphlojgmfkgeiaaGreatDoor
/- Reference: a yard after a move. -/
namespace Go.Proofs.YtphlojgmfkgeiaaGreatDoor
open Go.RowKit Go.Sort Go.Shelf
set_option linter.unusedSimpArgs false
set_option linter.unusedVariables false
attribute [local go_sem] cell_if frozen_if grow_cell
theorem own_some {w : World} {base size n c : Nat} {e : TypeId} {A : Option Addr} {xs : List Value} (h : w.ownsRow base e size (.slice A n c) n xs) (hn : 0 < n) : ∃ g, A = some ⟨g, 0, none⟩ := by
  rcases h.2 with ⟨_, h1⟩ | ⟨g, cap', cur, hv, _⟩
  · omega
  · cases hv
    exact ⟨g, rfl⟩
theorem sws_setL (l : List Sw) (i : Nat) (q : Bool) (h : i < l.length) : (sws l).set (i * 5 + 4) (.bool q) = sws (l.modify i fun x => { x with c := q }) := by
  have := congrArg Array.toList (sws_set l i q h)
  rwa [Array.toList_setIfInBounds] at this
section
variable {T0 T1 T2 : TypeId} {base : Nat} {y : Yd} {A0 A1 A2 : Option Addr} {c0 c1 c2 g : Nat} {w w' : World}
theorem OwRow.close {i : Nat} (h : OwRow T0 T1 T2 base y A0 (some ⟨g, 0, none⟩) A2 c0 c1 c2 w) (q : Bool) (hi : i < y.w.length) (h0 : T0 ≠ T1) (h2 : T2 ≠ T1) : OwRow T0 T1 T2 base { y with w := y.w.modify i fun x => { x with c := q } } A0 (some ⟨g, 0, none⟩) A2 c0 c1 c2 (w.setCell ⟨g, i * 5 + 4, none⟩ (.bool q)) := by
  obtain ⟨cur, hk⟩ := own_blk h.r1
  refine ⟨row_set h.r0 hk h0, ?_, row_set h.r2 hk h2⟩
  have := (World.ownsRow.stored h.r1 (i * 5 + 4) (.bool q)).1
  rw [sws_setL _ _ _ hi] at this
  simpa using this
end
set_option maxRecDepth 100000 in
set_option maxHeartbeats 4000000 in
theorem rMoved_any (B : Nat) (A0 A1 A2 : Option Addr) (n0 n1 n2 c0 c1 c2 : Nat) (y : Yd) (i : Nat) (w : World) (hY : YdAt w B A0 A1 A2 n0 n1 n2 y) (hB : B ≤ w.heap.size) (h0 : n0 ≤ 1000) (h1 : n1 ≤ 1000) (h2 : n2 ≤ 1000) (hi : i < y.w.length) :
    Calls Tryz.prog 93 #[.agg #[.slice A0 n0 c0, .slice A1 n1 c1, .slice A2 n2 c2], .int .i64 (i : Int)] w (OwRes 66 68 72 w (y.mv i)) := by
  have HO := Lib.hid (fun W (hW : Below w.heap.size w W) => rOwn_any B A0 A1 A2 n0 n1 n2 c0 c1 c2 y W (hY.below (hW.mono hB)) (by have := hW.size; omega) h0 h1 h2)
  obtain ⟨hl1, ha1⟩ := sw_at hY.hw
  obtain ⟨b, o, eA, hbb, z0, z1, z2, z3, z4⟩ := ha1 i hi
  clear z0 z1 z2 z3
  subst eA
  have hi1 : (i : Int) < (n1 : Int) := by omega
  clear hY ha1
  go_enter Tryz.func93, Tryz.ntmps93
  go_wp2_with fail
  refine (HO.out _ bl_).mono ?_
  rintro e w1 ⟨A0', A1', A2', c0', c1', c2', rfl, hO, hb1⟩
  obtain ⟨g, rfl⟩ := own_some hO.r1 (by omega)
  have hs1 := hb1.size
  simp at hs1
  have HOw := Lib.hid hO
  obtain ⟨cur, hgb⟩ := own_blk hO.r1
  have hg := (hO.r1.lt g rfl).1
  have hlt := (hO.r1.lt g rfl).2
  simp at hg
  have hcell : ∃ u, w1.cell? ⟨g, i * 5 + 4, none⟩ = some u := by
    rw [World.ownsRow.cellAt hO.r1 _ (by omega)]
    exact ⟨_, List.getElem?_eq_getElem (by rw [sws_len]; omega)⟩
  obtain ⟨u0, hcell⟩ := hcell
  have hfr := World.ownsRow.frozenAt hO.r1
  have hng : w1.heap.size ≠ g := by omega
  have hmm := Lib.hid (modify_moved y.w i hi)
  have b4 : Blk w1 (w.heap.size + 1) 26 #[.slice none 0 0, .slice none 0 0, .slice none 0 0] := (show Blk _ _ _ _ from bk_)
  have B4 := Lib.hid b4
  have lt4 := b4.lt
  have z4' : w1.cell? ⟨b, o + i * 5 + 4, none⟩ = some (.bool y.w[i].c) := by
    have hbw : Below w.heap.size w w1 := bl_
    rw [hbw.cell (p := ⟨b, o + i * 5 + 4, none⟩) (by simp; omega)]
    simpa [Nat.add_assoc] using z4
  have hbg : b ≠ g := by omega
  have hbw1 : b < w1.heap.size := by omega
  have HI := Lib.hid hi
  generalize y.w[i].c = q at *
  clear hO b4 z4 hgb
  obtain ⟨hc1, hf1⟩ := ifs_of hb1; have hs1 := hb1.size; (try simp at hs1)
  go_wp2_with fail
  (refine wp_region_calm [g] [0, 1, 2, 3, 4, 5, 6, 7, 8, 9, 10, 11] 1 (by kernel_rfl) rfl (by kernel_rfl) (by kernel_rfl) (by kernel_rfl) ?_; simp only [pickB, List.filterMap_cons, List.filterMap_nil, List.getElem?_toArray, List.getElem?_cons_zero, List.getElem?_cons_succ]; (repeat (first | ((with_reducible refine quietL_plain rfl (fun K hK => ?_)); (apply Exists.intro; refine ⟨fun wx hx => ?_, ?_⟩; (· (have hcx := ifs_ex hx); simp [go_sem, *, ↓IntWalk.iteOmega] <;> (first | rfl | exact ⟨rfl, rfl⟩ | fail)); (simp only [Act.put, List.setIfInBounds_toArray, List.set_cons_zero, List.set_cons_succ]; refine hK _ ?_; clear hK K))) | ((with_reducible refine quietL_skip (by with_unfolding_all rfl) ?_); simp only [Act.put, List.setIfInBounds_toArray, List.set_cons_zero, List.set_cons_succ]) | ((with_reducible refine quietL_want (by with_unfolding_all rfl) (fun K hK => ?_)); (apply Exists.intro; refine ⟨fun wx hx => ?_, ?_⟩; (· (have hcx := ifs_ex hx); simp [go_sem, *, ↓IntWalk.iteOmega] <;> (first | rfl | exact ⟨rfl, rfl⟩ | fail)); (simp only [Act.put, List.setIfInBounds_toArray, List.set_cons_zero, List.set_cons_succ]; refine hK _ ?_; clear hK K))))); refine quietL_nil ?_)
  refine anyB_one (i := 12) (by kernel_rfl) rfl rfl ?_
  intro w4 hb4 K hK
  have hs4 := hb4.size
  have hO4 : OwRow 66 68 72 w.heap.size y A0' (some ⟨g, 0, none⟩) A2' c0' c1' c2' w4 := (HOw.out.low (by simp; omega)).kept bl_
  have f4 := World.ownsRow.frozenAt hO4.r1
  have e4 : w4.cell? ⟨g, i * 5 + 4, none⟩ = some u0 := (Below.cell (bl_ : Below w1.heap.size w1 w4) hlt).trans hcell
  have bo4 : Blk w4 w1.heap.size 26 #[.slice A0' y.s.length c0', .slice (some ⟨g, 0, none⟩) n1 c1', .slice A2' y.p.length c2'] := (show Blk _ _ _ _ from bk_)
  have b44 : Blk w4 (w.heap.size + 1) 26 #[.slice none 0 0, .slice none 0 0, .slice none 0 0] := B4.out.below (bl_ : Below w1.heap.size w1 w4) lt4
  have HBL4 := Lib.hid (bl_ : Below w.heap.size w w4)
  go_wp2
  refine ⟨xs_, ?_⟩
  refine anyB_end (by kernel_rfl) ?_
  intro w5 hb5
  have hbl4 := HBL4.out
  have hs5 : w4.heap.size ≤ w5.heap.size := by have := hb5.size; simpa [World.setCell] using this
  have hO5 := (hO4.close (!q) HI.out (by decide) (by decide)).kept hb5
  rw [hmm.out] at hO5
  have bo5 := (bo4.far (p := ⟨g, i * 5 + 4, none⟩) hng (.bool !q)).kept hb5
  have b45 := (b44.far (p := ⟨g, i * 5 + 4, none⟩) (by simp; omega) (.bool !q)).kept hb5
  have hbl5 : Below w.heap.size w w5 := (hbl4.setCell (p := ⟨g, i * 5 + 4, none⟩) (by simp; omega) (.bool !q)).trans (hb5.mono (by have := hbl4.size; simp [World.setCell]; omega))
  have co5 := bo5.cell
  have c45 := b45.cell
  have f45 := b45.frozen
  have k0 := b45.set_ 0 (.slice A0' y.s.length c0')
  have k1 := k0.set_ 1 (.slice (some ⟨g, 0, none⟩) n1 c1')
  have k2 := k1.set_ 2 (.slice A2' y.p.length c2')
  have hO6 := ((hO5.far (i := 0) b45 (.slice A0' y.s.length c0') (by decide) (by decide) (by decide)).far (i := 1) k0 (.slice (some ⟨g, 0, none⟩) n1 c1') (by decide) (by decide) (by decide)).far (i := 2) k1 (.slice A2' y.p.length c2') (by decide) (by decide) (by decide)
  have hbl6 := ((hbl5.setCell (p := ⟨w.heap.size + 1, 0, none⟩) (by simp) (.slice A0' y.s.length c0')).setCell (p := ⟨w.heap.size + 1, 1, none⟩) (by simp) (.slice (some ⟨g, 0, none⟩) n1 c1')).setCell (p := ⟨w.heap.size + 1, 2, none⟩) (by simp) (.slice A2' y.p.length c2')
  have ck := k2.cell
  have HO6 := Lib.hid (And.intro hO6 hbl6)
  have HL1 := Lib.hid hl1
  simp only [Calm]
  clear hl1 hO6 hbl6 hO5 hO4 k0 k1 k2 hbl5 hbl4 hb5 hcell e4 hfr hb4
  go_wp2_with fail
  refine bodyPost_ret (v := .agg #[.slice A0' y.s.length c0', .slice (some ⟨g, 0, none⟩) n1 c1', .slice A2' y.p.length c2']) (by simp [results, Tryz.results93, go_sem, ck]) rfl ?_
  refine ⟨A0', some ⟨g, 0, none⟩, A2', c0', c1', c2', ?_, HO6.out.1, HO6.out.2⟩
  show Ending.returned (.agg #[_, .slice _ n1 _, _]) = .returned (.agg #[_, .slice _ (moved y.w i).length _, _])
  rw [moved_len, HL1.out]
  rfl
end Go.Proofs.YtphlojgmfkgeiaaGreatDoor
