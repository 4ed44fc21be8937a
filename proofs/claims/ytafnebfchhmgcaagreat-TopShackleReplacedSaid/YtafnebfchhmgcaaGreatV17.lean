/- Plans of replacement: the program's Plan gives a plan, or the error that there is none. -/
import Derived.Test.YtafnebfchhmgcaaGreatV16
import Derived.Test.YtafnebfchhmgcaaGreatR8
import Derived.WalkMore
namespace Go.Proofs.YtafnebfchhmgcaaGreat
open Go Go.RowKit Go.Sort Go.Shelf
set_option linter.unusedSimpArgs false
set_option linter.unusedVariables false
attribute [local go_sem] cell_if frozen_if grow_cell
attribute [local go_sem] Oper.semAt_some
theorem plans_any (Am Ao : Option Addr) (nm cm no co : Nat) (w : World) :
    Calls Tryz.prog 103 #[.slice Am nm cm, .slice Ao no co] w fun e w' => e = .returned (.func (.func 148) #[] #[.pointer (some ⟨w.heap.size, 0, none⟩), .pointer (some ⟨w.heap.size + 1, 0, none⟩)]) ∧ (w.alloc (.cells #[.slice Am nm cm] 87)).alloc (.cells #[.slice Ao no co] 106) = w' := by
  go_enter Tryz.func103, Tryz.ntmps103
  go_wp2
  go_ret
  exact ⟨rfl, rfl⟩
/-- plans hands out all plans. -/
theorem plans_seq (n n₀ g1 g2 : Nat) (Xs : List Nat) (Am Ao : Option Addr) (nm cm no co : Nat) (ms : List Vm) (os : List Ot) (w : World) (hm : Reads w n₀ 4 Am nm (vms ms)) (ho : Reads w n₀ 3 Ao no (ots os)) (h0 : n₀ ≤ w.heap.size) (hV : VmsOk ms) (hO : OutOk os) (hX : ∀ k ∈ Xs, n₀ ≤ k ∧ k < w.heap.size + 2)
    (h1 : Blk w g1 87 #[.slice Am nm cm]) (h2 : Blk w g2 106 #[.slice Ao no co]) :
    SeqRow Fence.wide n Tryz.prog 148 #[.pointer (some ⟨g1, 0, none⟩), .pointer (some ⟨g2, 0, none⟩)] (fun x : Value × List Int => #[x.1]) (PlA (w.heap.size + 2) ms os) (Ex Xs) (fun xs => ms = [] → xs ≠ []) (fun _ => True) w := fun l J Jx W hW hsz hJ hJx hR hJ0 => by
  have b1 := h1.kept hW
  have b2 := h2.kept hW
  have HE := Lib.hid (extend_any n₀ (w.heap.size + 2) l Xs Am Ao nm cm no co ms os W (hm.below (hW.mono h0)) (ho.below (hW.mono h0)) (by have := hW.size; omega) hV hO hX J Jx hJ hJx (fun pre x W1 hj ha => yield_wide (hR pre x W1 hj ha)) ms.length (.slice none 0 0) [] [] W (by simp) (PaOk.nil _ _) (World.ownsRow_nil _ _ _ _) hsz (Below.refl _ _) hJ0)
  have HF : Hid (ms = [] → fitB os ms [] = true) := Lib.hid (fun e => by
    subst e
    unfold fitB
    have hh : leftS (os.map Ot.h) [] [] = os.map Ot.h := rfl
    rw [hh, Bool.not_eq_true', List.any_eq_false]
    intro z hz
    obtain ⟨o, h1, rfl⟩ := List.mem_map.1 hz
    have := (hO.h o h1).1
    simp
    omega)
  clear hm ho hV hO hX hJ hJx hR hJ0 h1 h2
  refine callsIn_of_wp Tryz.func148 rfl trivial ?_ rfl
  simp only [Tryz.ntmps148, List.size_toArray, List.length_cons, List.length_nil, Nat.reduceAdd, Nat.reduceSub, Array.replicate_succ, Array.replicate_zero, List.push_toArray, List.append_toArray, List.nil_append, List.cons_append]
  have c1 := b1.cell 0
  have c2 := b2.cell 0
  simp at c1 c2
  gi_wp2
  refine ⟨trivial, fun h => by simp [Fence.wide] at h, (callsIn_wide.2 HE.out).mono ?_⟩
  rintro e W2 ⟨_, (⟨rfl, xs, hx, hj⟩ | ⟨rfl, xs, hj⟩)⟩
  · rw [List.nil_append] at hj
    have HJ2 := Lib.hid hj
    have HX2 := Lib.hid hx
    clear hj hx
    (gi_wp2; (try (refine ⟨fun _ h => (by cases h), ?_⟩; gi_wp2)); (try (refine ⟨fun _ h => (by cases h), ?_⟩; gi_wp2)))
    go_end0
    exact ⟨⟨_, rfl⟩, .inl ⟨xs, fun e => HX2.out (by rw [HF.out e, e]; rfl), HJ2.out⟩⟩
  · rw [List.nil_append] at hj
    have HJ2 := Lib.hid hj
    clear hj
    (gi_wp2; (try (refine ⟨fun _ h => (by cases h), ?_⟩; gi_wp2)); (try (refine ⟨fun _ h => (by cases h), ?_⟩; gi_wp2)))
    go_end0
    exact ⟨⟨_, rfl⟩, .inr ⟨xs, trivial, HJ2.out⟩⟩
/-- A plan. -/
structure PlOk (ms : List Vm) (os : List Ot) (ks : List Int) : Prop where
  ok : PaOk ms os ks
  len : ks.length = ms.length
  fit : fitB os ms ks = true
def PlanRes (w : World) (ms : List Vm) (os : List Ot) (e : Ending) (w' : World) : Prop := Below w.heap.size w w' ∧ ((∃ v z ks, e = .returned (.tuple #[v, .int .i64 z, .int .i64 0]) ∧ w'.ownsRow w.heap.size 3 1 v ks.length (ks.map (.int .i64)) ∧ PlOk ms os ks) ∨ (ms ≠ [] ∧ e = .returned (.tuple #[.slice none 0 0, .int .i64 0, .int .i64 18])))
/-- Between two plans: the best one, and whether there is one; a box of the function's own. -/
structure PnI (n₀ g N bx : Nat) (vb : Value) (ms : List Vm) (os : List Ot) (w0 : World) (fb : Bool) (W : World) : Prop where
  box : ∃ v ks, Blk W g 73 #[v] ∧ (fb = true → PlA (N + 2) ms os (v, ks) W)
  fnd : Blk W (g + 1) 4 #[.bool fb]
  bx : Blk W bx 106 #[vb]
  low : Below n₀ w0 W
  le : N ≤ W.heap.size
theorem PlA.grown {n1 : Nat} {ms : List Vm} {os : List Ot} {x : Value × List Int} {U V : World} {row : Option Nat} (h : PlA n1 ms os x U) (hg : U.grownBy V row) (hr : ∀ r, row = some r → ∀ t c, ¬ Blk U r t c) : PlA n1 ms os x V :=
  ⟨row_grown h.row hg fun r e c hb => hr r e _ _ hb, h.ok, h.len, h.fit⟩
theorem PnI.grown {n₀ g N bx : Nat} {vb : Value} {ms : List Vm} {os : List Ot} {w0 : World} {fb : Bool} {U V : World} {row : Option Nat} (hn : n₀ ≤ N) (h : PnI n₀ g N bx vb ms os w0 fb U) (hg : U.grownBy V row) (hr : ∀ r, row = some r → N ≤ r ∧ ∀ t c, ¬ Blk U r t c) : PnI n₀ g N bx vb ms os w0 fb V := by
  obtain ⟨⟨v, ks, h1, h2⟩, h3, hx, h4, h5⟩ := h
  exact ⟨⟨v, ks, (hg.block _ h1.lt (fun e => (hr _ e.symm).2 _ _ h1)).trans h1, fun e => (h2 e).grown hg fun r e => (hr r e).2⟩, (hg.block _ h3.lt (fun e => (hr _ e.symm).2 _ _ h3)).trans h3, (hg.block _ hx.lt (fun e => (hr _ e.symm).2 _ _ hx)).trans hx, h4.grown hg (by have := h4.size; omega) (fun j hj => by have := (hr j hj).1; omega), Nat.le_trans h5 hg.size⟩
theorem PnI.kept {n₀ g N bx : Nat} {vb : Value} {ms : List Vm} {os : List Ot} {w0 : World} {fb : Bool} {U V : World} (hn : n₀ ≤ N) (h : PnI n₀ g N bx vb ms os w0 fb U) (hb : Below U.heap.size U V) : PnI n₀ g N bx vb ms os w0 fb V := h.grown hn (grown_of_below hb) (fun r e => by cases e)
theorem PlA.kept {n1 : Nat} {ms : List Vm} {os : List Ot} {x : Value × List Int} {U V : World} (h : PlA n1 ms os x U) (hb : Below U.heap.size U V) : PlA n1 ms os x V := h.grown (grown_of_below hb) (fun r e => by cases e)
/-- A new best plan is put into its box. -/
theorem PnI.put {n₀ g N bx : Nat} {vb : Value} {ms : List Vm} {os : List Ot} {w0 : World} {fb : Bool} {U : World} {x : Value × List Int} (h : PnI n₀ g N bx vb ms os w0 fb U) (hx : PlA (N + 2) ms os x U) (hg : n₀ ≤ g) (hgb : bx ≠ g) (hgb2 : bx ≠ g + 1) (hgN : g + 1 < N) : PnI n₀ g N bx vb ms os w0 true ((U.setCell ⟨g, 0, none⟩ x.1).setCell ⟨g + 1, 0, none⟩ (.bool true)) ∧ KeepsFrom N U ((U.setCell ⟨g, 0, none⟩ x.1).setCell ⟨g + 1, 0, none⟩ (.bool true)) ∧ Ex [g, g + 1, N + 1] U ((U.setCell ⟨g, 0, none⟩ x.1).setCell ⟨g + 1, 0, none⟩ (.bool true)) := by
  obtain ⟨⟨v, ks, h1, h2⟩, h3, hx3, h4, h5⟩ := h
  have s1 := h1.set_ 0 x.1
  have s2 := h3.far (p := ⟨g, 0, none⟩) (show g + 1 ≠ g by omega) x.1
  have s3 := s2.set_ 0 (.bool true)
  have hEx : Ex [g, g + 1, N + 1] U ((U.setCell ⟨g, 0, none⟩ x.1).setCell ⟨g + 1, 0, none⟩ (.bool true)) := ((Ex.refl _ U).set_in (.inl (by simp)) _).set_in (.inl (by simp)) _
  refine ⟨⟨⟨x.1, x.2, s1.far (p := ⟨g + 1, 0, none⟩) (show g ≠ g + 1 by omega) _, fun _ => ⟨own_ex hx.row hEx (fun k hk => ?_), hx.ok, hx.len, hx.fit⟩⟩, s3, (hx3.far (p := ⟨g, 0, none⟩) hgb _).far (p := ⟨g + 1, 0, none⟩) hgb2 _, (h4.setCell (p := ⟨g, 0, none⟩) hg _).setCell (p := ⟨g + 1, 0, none⟩) (by show n₀ ≤ g + 1; omega) _, ?_⟩, ((KeepsOthers.setCell _ _ _).trans (KeepsOthers.setCell _ _ _)).from _, hEx⟩
  · simp at hk
    omega
  · exact Nat.le_trans h5 hEx.size
set_option maxRecDepth 100000 in
set_option maxHeartbeats 8000000 in
theorem Plan_any (Am Ao : Option Addr) (nm cm no co : Nat) (ms : List Vm) (os : List Ot) (w : World) (hV : VmsOk ms) (hO : OutOk os) (hm : Reads w w.heap.size 4 Am nm (vms ms)) (ho : Reads w w.heap.size 3 Ao no (ots os)) (hc : nm ≤ cm) :
    Calls Tryz.prog 43 #[.slice Am nm cm, .slice Ao no co] w (PlanRes w ms os) := by
  have hlm := (vm_at hm).1
  have hlo := (ot_at ho).1
  have h8 : nm ≤ 8 := by rw [← hlm]; exact hV.len
  have h6 : no ≤ 6 := by rw [← hlo]; exact hO.len
  have HVc := Lib.hid (fun W (hW : Below w.heap.size w W) => vcheck_any w.heap.size w.heap.size Am Ao nm cm no co ms os W hV hO (hm.below hW) (ho.below hW) hW.size hW.size hc)
  have HCo := Lib.hid (fun W (hW : Below w.heap.size w W) Ap np cp ks (hp : Reads W W.heap.size 1 Ap np (ks.map (.int .i64))) (h8 : np ≤ 8) => cost_any w.heap.size W.heap.size Ao Ap no co np cp os ks W (ho.below hW) hp hW.size (Nat.le_refl _) h6 h8 hO.c)
  have HMs := Lib.hid hm
  have HOs := Lib.hid ho
  have HV := Lib.hid hV
  have HO := Lib.hid hO
  have HLm := Lib.hid hlm
  clear hm ho hV hO hlm hlo
  refine (callsIn_wide (n := 9)).1 ?_
  refine callsIn_of_wp_marks Tryz.func43 rfl trivial ?_ rfl
  refine wpIn_wide.2 ?_
  simp only [Tryz.ntmps43, List.size_toArray, List.length_cons, List.length_nil, Nat.reduceAdd, Nat.reduceSub, Array.replicate_succ, Array.replicate_zero, List.push_toArray, List.append_toArray, List.nil_append, List.cons_append]
  go_wp2_with fail
  go_step3
  go_wp2_with fail
  refine (HVc.out _ bl_).mono ?_
  rintro e w1 ⟨rfl, hb1⟩
  have HX3 := Lib.hid (show Blk w1 w.heap.size 106 #[.slice Ao no co] from bk_)
  have HL1 := Lib.hid (show Below w.heap.size w w1 from bl_)
  have hs1 := hb1.size
  simp at hs1
  clear hb1
  have c3 := HX3.out.cell
  have l3 := HX3.out.lt
  go_wp2_with fail
  go_step3
  go_wp2_with fail
  refine (plans_any _ _ _ _ _ _ _).mono ?_
  rintro e wb ⟨rfl, hwb⟩
  have HP0 : Hid (PnI w.heap.size w1.heap.size wb.heap.size w.heap.size (.slice Ao no co) ms os w false wb) := Lib.hid (by
    rw [← hwb]
    refine ⟨⟨.slice none 0 0, [], bk_, fun e => by cases e⟩, bk_, ?_, ?_, Nat.le_refl _⟩
    · exact (((HX3.out.alloc _).alloc _).alloc _).alloc _
    · exact (((HL1.out.alloc (by omega) _).alloc (by simp; omega) _).alloc (by simp; omega) _).alloc (by simp; omega) _)
  have HBm : Hid (Blk wb (w1.heap.size + 1 + 1) 87 #[.slice Am nm cm]) := Lib.hid (by rw [← hwb]; exact bk_)
  have HBo : Hid (Blk wb (w1.heap.size + 1 + 1 + 1) 106 #[.slice Ao no co]) := Lib.hid (by rw [← hwb]; exact bk_)
  have hsb : wb.heap.size = w1.heap.size + 1 + 1 + 1 + 1 := by rw [← hwb]; simp
  simp only [World.size_alloc]
  clear hwb HX3 HL1 c3 l3
  go_wp2_with fail
  generalize w1.heap.size = g at *
  have HSq := Lib.hid (plans_seq 8 w.heap.size (g + 1 + 1) (g + 1 + 1 + 1) [g, g + 1, wb.heap.size + 1] Am Ao nm cm no co ms os wb (HMs.out.below HP0.out.low) (HOs.out.below HP0.out.low) HP0.out.low.size HV.out HO.out (fun k hk => by simp at hk; omega) HBm.out HBo.out)
  refine (wpIn_wide (n := 9)).1 ?_
  change Code.wpIn _ _ _ (Code.rangeFunc _ _ _ _) _ ?act _
  refine range_row rfl (by omega) (gf := 148) (lb := #[.pointer (some ⟨g + 1 + 1, 0, none⟩), .pointer (some ⟨g + 1 + 1 + 1, 0, none⟩)]) rfl trivial (enters_of Tryz.func148 (by kernel_rfl) rfl)
    HSq.out (fun h k => h.then k) ?kb (Below.refl _ _) (fun _ => rfl) ?hA
    (fun pre W => ∃ fb, PnI w.heap.size g wb.heap.size w.heap.size (.slice Ao no co) ms os w fb W ∧ (fb = false → pre = []))
    (fun c _ W => c = .exit 0 ∧ PnI w.heap.size g wb.heap.size w.heap.size (.slice Ao no co) ms os w true W) ?own ?ownx ?start
    (fun x => { (?act : Act) with tmps := (((?act : Act).tmps.setIfInBounds 20 x.1).setIfInBounds 10 x.1) }) ?assign ?body ?done ?stop
  case kb =>
    intro W o' hl
    refine ⟨rfl, rfl, rfl, by simp [World.putObj], fun k hk hn => World.putObj_heap_other (fun e => hn (by simp [e]))⟩
  case hA =>
    intro x s U V row h hg hr
    exact h.grown hg fun r e => no_blk (hr r e).2
  case own =>
    rintro pre U V row ⟨fb, h1, h2⟩ hg hr
    exact ⟨fb, h1.grown (by omega) hg fun r e => ⟨(hr r e).1, no_blk (hr r e).2⟩, h2⟩
  case ownx =>
    rintro c pre U V row ⟨h1, h2⟩ hg hr
    exact ⟨h1, h2.grown (by omega) hg fun r e => ⟨(hr r e).1, no_blk (hr r e).2⟩⟩
  case start => exact ⟨false, HP0.out, fun _ => rfl⟩
  case assign =>
    intro l' x W K hK
    gi_wp2
    exact hK
  case body =>
    rintro l' pre x W ⟨fb, hP, hpre⟩ hA
    obtain ⟨QQ, hQQ, hQn, hQe⟩ : ∃ QQ : Exit → Act → World → Prop, (∀ e a W', QQ e a W' → rowPost wb.heap.size (Ex [g, g + 1, wb.heap.size + 1]) (fun pre W => ∃ fb, PnI w.heap.size g wb.heap.size w.heap.size (.slice Ao no co) ms os w fb W ∧ (fb = false → pre = [])) (fun c _ W => c = .exit 0 ∧ PnI w.heap.size g wb.heap.size w.heap.size (.slice Ao no co) ms os w true W) (pre ++ [x]) W e a W') ∧
        (∀ a W', PnI w.heap.size g wb.heap.size w.heap.size (.slice Ao no co) ms os w true W' → KeepsFrom wb.heap.size W W' → Ex [g, g + 1, wb.heap.size + 1] W W' → QQ .normal a W') ∧
        (∀ a W', PnI w.heap.size g wb.heap.size w.heap.size (.slice Ao no co) ms os w true W' → KeepsFrom wb.heap.size W W' → Ex [g, g + 1, wb.heap.size + 1] W W' → QQ (.exit 0) a W') :=
      ⟨_, fun _ _ _ h => h, fun _ _ h1 h2 h3 => ⟨h2, h3, true, h1, fun e => by cases e⟩, fun _ _ h1 h2 h3 => ⟨h2, h3, rfl, h1⟩⟩
    refine Code.wpIn_mono hQQ ?_
    have HQn := Lib.hid hQn
    have HQe := Lib.hid hQe
    clear hQQ hQn hQe
    generalize hN : wb.heap.size = N at *
    obtain ⟨xv, xk⟩ := x
    have HA := Lib.hid hA
    have HP := Lib.hid hP
    obtain ⟨Ax, cx, ex, _, _, _⟩ := own_form hA.row
    dsimp only at ex
    subst ex
    obtain ⟨⟨v, ks, hb8, hpl⟩, hb9, hb3, hlow, hle⟩ := hP
    have HB8 := Lib.hid hb8
    have cB := hb8.cell 0
    have lB := hb8.lt
    have cF := hb9.cell 0
    have lF := hb9.lt
    have cO := hb3.cell 0
    have lO := hb3.lt
    simp at cB cF cO
    have hxl : xk.length ≤ 8 := by have h : xk.length = ms.length := hA.len; rw [HLm.out] at h; omega
    have HC1 := Lib.hid (fun W' (hW : Below W.heap.size W W') => HCo.out W' (hlow.trans (hW.mono hlow.size)) Ax xk.length cx xk (own_reads (own_kept hA.row hW)) hxl)
    obtain ⟨z1, hz1⟩ : ∃ z1, costL os xk no = z1 := ⟨_, rfl⟩
    rw [hz1] at HC1
    have HPl := Lib.hid hpl
    have HLow := Lib.hid hlow
    clear hA hb8 hb9 hb3 hpl hlow HSq HBm HBo HP0
    simp only [List.setIfInBounds_toArray, List.set_cons_zero, List.set_cons_succ]
    cases fb with
    | false =>
      gi_upto_region 8 with fail
      gi_cut [31] from 21 (fun s31 wx => s31 = .bool true ∧ Below W.heap.size W wx)
      case first =>
        (refine wp_region_calm_in [] [0, 1, 2, 3, 4, 5, 6, 7, 8, 9, 10] 0 (by kernel_rfl) rfl (by kernel_rfl) (by kernel_rfl) (by kernel_rfl) (by kernel_rfl) ?_; simp only [pickB, List.filterMap_cons, List.filterMap_nil, List.getElem?_toArray, List.getElem?_cons_zero, List.getElem?_cons_succ]; (repeat (first | ((first | (with_reducible refine quietL_plain rfl (fun K hK => ?_)) | (with_reducible refine quietL_want (by with_unfolding_all rfl) (fun K hK => ?_))); (apply Exists.intro; refine ⟨fun wx hx => ?_, ?_⟩; (· (have hcx := ifs_ex hx); simp [go_sem, *, ↓IntWalk.iteOmega] <;> (first | rfl | exact ⟨rfl, rfl⟩ | fail)); (simp only [Act.put, List.setIfInBounds_toArray, List.set_cons_zero, List.set_cons_succ]; refine hK _ ?_; clear hK K))) | ((with_reducible refine quietL_skip (by with_unfolding_all rfl) ?_); simp only [Act.put, List.setIfInBounds_toArray, List.set_cons_zero, List.set_cons_succ]))); refine quietL_nil ?_)
        (refine anyB_end (by kernel_rfl) ?_; intro w6 hb6; have hs6 := hb6.size; (try simp at hs6); simp only [Calm])
        simp only [Tame]
        gi_wp2
        gi_meet
        exact ⟨rfl, hb6⟩
      case rest =>
        obtain ⟨rfl, hbx⟩ := hcut
        rename World => W2
        have HA2 := Lib.hid (HA.out.kept hbx)
        have HP2 := Lib.hid (HP.out.kept (by omega) hbx)
        obtain ⟨hq1, hq2, hq3⟩ := HP2.out.put HA2.out (by omega) (by omega) (by omega) (by omega)
        have hk1 : KeepsFrom N W W2 := KeepsFrom.of_grownBy (grown_of_below hbx) (fun _ e => by cases e)
        have he1 : Ex [g, g + 1, N + 1] W W2 := Ex.of_below hbx
        have HK2 := Lib.hid (hk1.trans hq2)
        have HE2 := Lib.hid (he1.then hq3)
        have hA3 := own_reads (own_ex HA2.out.row hq3 (fun k hk => by simp at hk; omega))
        have HCx := Lib.hid (HCo.out _ hq1.low Ax xk.length cx xk hA3 hxl)
        have HP2 := Lib.hid hq1
        have hb8 := HB8.out.kept hbx
        have hb9 := (HP.out.kept (by omega) hbx).fnd
        have hb3 := (HP.out.kept (by omega) hbx).bx
        clear HC1 cB lB cF lF cO lO HP HA hq1 hq2 hq3 hk1 he1 hA3 HB8 hbx
        (try clear HC2)
        have cB := hb8.cell 0
        have fB := hb8.frozen 0
        have lB := hb8.lt
        have cF := hb9.cell 0
        have fF := hb9.frozen 0
        have lF := hb9.lt
        have cO := hb3.cell 0
        have lO := hb3.lt
        simp at cB cF cO
        clear hb8 hb9 hb3
        gi_wp2
        refine ⟨trivial, (CallsIn.inRound l' (callsIn_wide.2 HCx.out)).mono ?_⟩
        rintro e w3 ⟨rfl, hb3⟩
        have HP3 := Lib.hid (HP2.out.kept (by omega) hb3)
        have HK3 : Hid (KeepsFrom N W w3) := Lib.hid (HK2.out.trans (KeepsFrom.of_grownBy (grown_of_below hb3) (fun _ e => by cases e)))
        have HE3 : Hid (Ex [g, g + 1, N + 1] W w3) := Lib.hid (HE2.out.then (Ex.of_below hb3))
        clear hb3 HCx HP2 HK2 HE2
        generalize costL os _ no = zz
        cases hzz : (zz == 0)
        · gi_wp2
          exact HQn.out _ _ HP3.out HK3.out HE3.out
        · gi_wp2
          exact HQe.out _ _ HP3.out HK3.out HE3.out
    | true =>
      obtain ⟨Av, cv, ev, _, _, _⟩ := own_form (HPl.out rfl).row
      dsimp only at ev
      subst ev
      have HPv := Lib.hid (HPl.out rfl)
      have hkl : ks.length ≤ 8 := by have h : ks.length = ms.length := HPv.out.len; rw [HLm.out] at h; omega
      have HC2 := Lib.hid (fun W' (hW : Below W.heap.size W W') => HCo.out W' (HLow.out.trans (hW.mono HLow.out.size)) Av ks.length cv ks (own_reads (own_kept HPv.out.row hW)) hkl)
      obtain ⟨z2, hz2⟩ : ∃ z2, costL os ks no = z2 := ⟨_, rfl⟩
      rw [hz2] at HC2
      clear HPl
      gi_upto_region 8 with fail
      gi_cut [31] from 21 (fun s31 wx => s31 = .bool (decide (z1 < z2)) ∧ Below W.heap.size W wx)
      case first =>
        (refine wp_region_calm_in [] [0, 1, 2, 3, 4, 5, 6, 7, 8, 9, 10] 0 (by kernel_rfl) rfl (by kernel_rfl) (by kernel_rfl) (by kernel_rfl) (by kernel_rfl) ?_; simp only [pickB, List.filterMap_cons, List.filterMap_nil, List.getElem?_toArray, List.getElem?_cons_zero, List.getElem?_cons_succ]; (repeat (first | ((first | (with_reducible refine quietL_plain rfl (fun K hK => ?_)) | (with_reducible refine quietL_want (by with_unfolding_all rfl) (fun K hK => ?_))); (apply Exists.intro; refine ⟨fun wx hx => ?_, ?_⟩; (· (have hcx := ifs_ex hx); simp [go_sem, *, ↓IntWalk.iteOmega] <;> (first | rfl | exact ⟨rfl, rfl⟩ | (first | (with_reducible exact calls_B (HC1.out _ (Ex.low hx))) | (with_reducible exact calls_B (HC2.out _ (Ex.low hx)))))); (simp only [Act.put, List.setIfInBounds_toArray, List.set_cons_zero, List.set_cons_succ]; refine hK _ ?_; clear hK K))) | ((with_reducible refine quietL_skip (by with_unfolding_all rfl) ?_); simp only [Act.put, List.setIfInBounds_toArray, List.set_cons_zero, List.set_cons_succ]))); refine quietL_nil ?_)
        (refine anyB_end (by kernel_rfl) ?_; intro w6 hb6; have hs6 := hb6.size; (try simp at hs6); simp only [Calm])
        simp only [Tame]
        gi_wp2
        gi_meet
        exact ⟨rfl, hb6⟩
      case rest =>
        obtain ⟨rfl, hbx⟩ := hcut
        rename World => W2
        by_cases hz : z1 < z2
        · skip
          have hzd : decide (z1 < z2) = true := decide_eq_true hz
          rw [hzd]
          clear hz hzd
          have HA2 := Lib.hid (HA.out.kept hbx)
          have HP2 := Lib.hid (HP.out.kept (by omega) hbx)
          obtain ⟨hq1, hq2, hq3⟩ := HP2.out.put HA2.out (by omega) (by omega) (by omega) (by omega)
          have hk1 : KeepsFrom N W W2 := KeepsFrom.of_grownBy (grown_of_below hbx) (fun _ e => by cases e)
          have he1 : Ex [g, g + 1, N + 1] W W2 := Ex.of_below hbx
          have HK2 := Lib.hid (hk1.trans hq2)
          have HE2 := Lib.hid (he1.then hq3)
          have hA3 := own_reads (own_ex HA2.out.row hq3 (fun k hk => by simp at hk; omega))
          have HCx := Lib.hid (HCo.out _ hq1.low Ax xk.length cx xk hA3 hxl)
          have HP2 := Lib.hid hq1
          have hb8 := HB8.out.kept hbx
          have hb9 := (HP.out.kept (by omega) hbx).fnd
          have hb3 := (HP.out.kept (by omega) hbx).bx
          clear HC1 cB lB cF lF cO lO HP HA hq1 hq2 hq3 hk1 he1 hA3 HB8 hbx
          (try clear HC2)
          have cB := hb8.cell 0
          have fB := hb8.frozen 0
          have lB := hb8.lt
          have cF := hb9.cell 0
          have fF := hb9.frozen 0
          have lF := hb9.lt
          have cO := hb3.cell 0
          have lO := hb3.lt
          simp at cB cF cO
          clear hb8 hb9 hb3
          gi_wp2
          refine ⟨trivial, (CallsIn.inRound l' (callsIn_wide.2 HCx.out)).mono ?_⟩
          rintro e w3 ⟨rfl, hb3⟩
          have HP3 := Lib.hid (HP2.out.kept (by omega) hb3)
          have HK3 : Hid (KeepsFrom N W w3) := Lib.hid (HK2.out.trans (KeepsFrom.of_grownBy (grown_of_below hb3) (fun _ e => by cases e)))
          have HE3 : Hid (Ex [g, g + 1, N + 1] W w3) := Lib.hid (HE2.out.then (Ex.of_below hb3))
          clear hb3 HCx HP2 HK2 HE2
          generalize costL os _ no = zz
          cases hzz : (zz == 0)
          · gi_wp2
            exact HQn.out _ _ HP3.out HK3.out HE3.out
          · gi_wp2
            exact HQe.out _ _ HP3.out HK3.out HE3.out
        · skip
          have hzd : decide (z1 < z2) = false := decide_eq_false hz
          rw [hzd]
          clear hz hzd
          have HP2 := Lib.hid (HP.out.kept (by omega) hbx)
          have HK2 : Hid (KeepsFrom N W W2) := Lib.hid (KeepsFrom.of_grownBy (grown_of_below hbx) (fun _ e => by cases e))
          have HE2 : Hid (Ex [g, g + 1, N + 1] W W2) := Lib.hid (Ex.of_below hbx)
          have HCx := Lib.hid (HC2.out W2 hbx)
          have b8 := HB8.out.kept hbx
          have b3 := HP2.out.bx
          clear HC1 HC2 cB lB cF lF cO lO HP HA hbx
          have cB := b8.cell 0
          have lB := b8.lt
          have cO := b3.cell 0
          have lO := b3.lt
          simp at cB cO
          clear b8 b3
          rw [← hz2] at HCx
          gi_wp2
          refine ⟨trivial, (CallsIn.inRound l' (callsIn_wide.2 HCx.out)).mono ?_⟩
          rintro e w3 ⟨rfl, hb3⟩
          have HP3 := Lib.hid (HP2.out.kept (by omega) hb3)
          have HK3 : Hid (KeepsFrom N W w3) := Lib.hid (HK2.out.trans (KeepsFrom.of_grownBy (grown_of_below hb3) (fun _ e => by cases e)))
          have HE3 : Hid (Ex [g, g + 1, N + 1] W w3) := Lib.hid (HE2.out.then (Ex.of_below hb3))
          clear hb3 HCx HP2 HK2 HE2
          generalize costL os _ no = zz
          cases hzz : (zz == 0)
          · gi_wp2
            exact HQn.out _ _ HP3.out HK3.out HE3.out
          · gi_wp2
            exact HQe.out _ _ HP3.out HK3.out HE3.out
  case done =>
    rintro D xs W hD hS ⟨fb, hP, hpre⟩ hK
    cases fb with
    | false =>
      have hne : ms ≠ [] := fun e => hS e (hpre rfl)
      obtain ⟨⟨v, ks, hb8, hpl⟩, hb9, hb3, hlow, hle⟩ := hP
      have HN := Lib.hid hne
      have HLow := Lib.hid hlow
      have HK := Lib.hid hK
      have HD := Lib.hid hD
      have cF := hb9.cell 0
      have lF := hb9.lt
      simp at cF
      clear hb8 hb9 hb3 hpl hS hpre hne hlow hK hD HSq HBm HBo HP0 HVc HCo
      go_wp2_with fail
      (try rw [Exit.noGoto_ret])
      refine leaves_marks wb.heap.size [D] W (by simp) (fun E hE => by simp at hE; subst hE; exact HK.out) (fun E hE => by simp at hE; subst hE; exact HD.out) fun w' hw' hkk hs => ?_
      exact ⟨_, results_tmp3 rfl _ _ _, HLow.out.trans (hw'.mono (by omega)), .inr ⟨HN.out, rfl⟩⟩
    | true =>
      clear hS hpre
      obtain ⟨⟨v, ks, hb8, hpl⟩, hb9, hb3, hlow, hle⟩ := hP
      have HPv := Lib.hid (hpl rfl)
      obtain ⟨Av, cv, ev, _, _, _⟩ := own_form HPv.out.row
      dsimp only at ev
      subst ev
      have hkl : ks.length ≤ 8 := by have h : ks.length = ms.length := HPv.out.len; rw [HLm.out] at h; omega
      have HC2 := Lib.hid (fun W' (hW : Below W.heap.size W W') => HCo.out W' (hlow.trans (hW.mono hlow.size)) Av ks.length cv ks (own_reads (own_kept HPv.out.row hW)) hkl)
      have HLow := Lib.hid hlow
      have cB := hb8.cell 0
      have lB := hb8.lt
      have cF := hb9.cell 0
      have lF := hb9.lt
      have cO := hb3.cell 0
      have lO := hb3.lt
      simp at cB cF cO
      have HK := Lib.hid hK
      have HD := Lib.hid hD
      generalize costL os ks no = zz at *
      clear hb8 hb9 hb3 hlow hpl hK hD HSq HBm HBo HP0 HVc HCo
      go_upto_region 13 with fail
      (refine wp_region_calm [] [0, 1, 2, 3, 4, 5, 6] 0 (by kernel_rfl) rfl (by kernel_rfl) (by kernel_rfl) (by kernel_rfl) ?_; simp only [pickB, List.filterMap_cons, List.filterMap_nil, List.getElem?_toArray, List.getElem?_cons_zero, List.getElem?_cons_succ]; (repeat (first | ((first | (with_reducible refine quietL_plain rfl (fun K hK => ?_)) | (with_reducible refine quietL_want (by with_unfolding_all rfl) (fun K hK => ?_))); (apply Exists.intro; refine ⟨fun wx hx => ?_, ?_⟩; (· (have hcx := ifs_ex hx); simp [go_sem, *, ↓IntWalk.iteOmega] <;> (first | rfl | exact ⟨rfl, rfl⟩ | (with_reducible exact calls_B (HC2.out _ (Ex.low hx))))); (simp only [Act.put, List.setIfInBounds_toArray, List.set_cons_zero, List.set_cons_succ]; refine hK _ ?_; clear hK K))) | ((with_reducible refine quietL_skip (by with_unfolding_all rfl) ?_); simp only [Act.put, List.setIfInBounds_toArray, List.set_cons_zero, List.set_cons_succ]))); refine quietL_nil ?_)
      refine anyB_end (by kernel_rfl) ?_
      intro w5 hb5
      simp only [Calm]
      have hs5 := hb5.size
      have HK5 := Lib.hid ((hb5.block D (Array.getElem?_eq_some_iff.1 HK.out).1).trans HK.out)
      have HR5 := Lib.hid (own_kept HPv.out.row hb5)
      have HL5 := Lib.hid (HLow.out.trans (hb5.mono HLow.out.size))
      have HQ5 : Hid (PlOk ms os ks) := Lib.hid ⟨HPv.out.ok, HPv.out.len, HPv.out.fit⟩
      clear HC2 HPv cB lB cF lF cO lO HK HLow hb5
      go_wp2_with fail
      (try rw [Exit.noGoto_ret])
      refine leaves_marks wb.heap.size [D] w5 (by simp) (fun E hE => by simp at hE; subst hE; exact HK5.out) (fun E hE => by simp at hE; subst hE; exact HD.out) fun w' hw' hkk hs => ?_
      have hrk : w'.ownsRow w.heap.size 3 1 (.slice Av ks.length cv) ks.length (ks.map (.int .i64)) := row_base (row_kept HR5.out fun k c hb => hkk k fun hk => by
        rw [List.mem_singleton.1 hk] at hb
        have hb' := (show w5.heap[D]? = _ from hb).symm.trans HK5.out
        cases hb') (by omega)
      refine ⟨_, results_tmp3 rfl _ _ _, HL5.out.trans (hw'.mono (by omega)), .inl ⟨_, _, ks, rfl, hrk, HQ5.out⟩⟩
  case stop =>
    rintro D c pre W hD _ ⟨rfl, hP⟩ hK
    refine wpIn_wide.2 ?_
    obtain ⟨⟨v, ks, hb8, hpl⟩, hb9, hb3, hlow, hle⟩ := hP
    have HPv := Lib.hid (hpl rfl)
    obtain ⟨Av, cv, ev, _, _, _⟩ := own_form HPv.out.row
    dsimp only at ev
    subst ev
    have hkl : ks.length ≤ 8 := by have h : ks.length = ms.length := HPv.out.len; rw [HLm.out] at h; omega
    have HC2 := Lib.hid (fun W' (hW : Below W.heap.size W W') => HCo.out W' (hlow.trans (hW.mono hlow.size)) Av ks.length cv ks (own_reads (own_kept HPv.out.row hW)) hkl)
    have HLow := Lib.hid hlow
    have cB := hb8.cell 0
    have lB := hb8.lt
    have cF := hb9.cell 0
    have lF := hb9.lt
    have cO := hb3.cell 0
    have lO := hb3.lt
    simp at cB cF cO
    have HK := Lib.hid hK
    have HD := Lib.hid hD
    generalize costL os ks no = zz at *
    clear hb8 hb9 hb3 hlow hpl hK hD HSq HBm HBo HP0 HVc HCo
    go_upto_region 13 with fail
    (refine wp_region_calm [] [0, 1, 2, 3, 4, 5, 6] 0 (by kernel_rfl) rfl (by kernel_rfl) (by kernel_rfl) (by kernel_rfl) ?_; simp only [pickB, List.filterMap_cons, List.filterMap_nil, List.getElem?_toArray, List.getElem?_cons_zero, List.getElem?_cons_succ]; (repeat (first | ((first | (with_reducible refine quietL_plain rfl (fun K hK => ?_)) | (with_reducible refine quietL_want (by with_unfolding_all rfl) (fun K hK => ?_))); (apply Exists.intro; refine ⟨fun wx hx => ?_, ?_⟩; (· (have hcx := ifs_ex hx); simp [go_sem, *, ↓IntWalk.iteOmega] <;> (first | rfl | exact ⟨rfl, rfl⟩ | (with_reducible exact calls_B (HC2.out _ (Ex.low hx))))); (simp only [Act.put, List.setIfInBounds_toArray, List.set_cons_zero, List.set_cons_succ]; refine hK _ ?_; clear hK K))) | ((with_reducible refine quietL_skip (by with_unfolding_all rfl) ?_); simp only [Act.put, List.setIfInBounds_toArray, List.set_cons_zero, List.set_cons_succ]))); refine quietL_nil ?_)
    refine anyB_end (by kernel_rfl) ?_
    intro w5 hb5
    simp only [Calm]
    have hs5 := hb5.size
    have HK5 := Lib.hid ((hb5.block D (Array.getElem?_eq_some_iff.1 HK.out).1).trans HK.out)
    have HR5 := Lib.hid (own_kept HPv.out.row hb5)
    have HL5 := Lib.hid (HLow.out.trans (hb5.mono HLow.out.size))
    have HQ5 : Hid (PlOk ms os ks) := Lib.hid ⟨HPv.out.ok, HPv.out.len, HPv.out.fit⟩
    clear HC2 HPv cB lB cF lF cO lO HK HLow hb5
    go_wp2_with fail
    (try rw [Exit.noGoto_ret])
    refine leaves_marks wb.heap.size [D] w5 (by simp) (fun E hE => by simp at hE; subst hE; exact HK5.out) (fun E hE => by simp at hE; subst hE; exact HD.out) fun w' hw' hkk hs => ?_
    have hrk : w'.ownsRow w.heap.size 3 1 (.slice Av ks.length cv) ks.length (ks.map (.int .i64)) := row_base (row_kept HR5.out fun k c hb => hkk k fun hk => by
      rw [List.mem_singleton.1 hk] at hb
      have hb' := (show w5.heap[D]? = _ from hb).symm.trans HK5.out
      cases hb') (by omega)
    refine ⟨_, results_tmp3 rfl _ _ _, HL5.out.trans (hw'.mono (by omega)), .inl ⟨_, _, ks, rfl, hrk, HQ5.out⟩⟩
end Go.Proofs.YtafnebfchhmgcaaGreat
