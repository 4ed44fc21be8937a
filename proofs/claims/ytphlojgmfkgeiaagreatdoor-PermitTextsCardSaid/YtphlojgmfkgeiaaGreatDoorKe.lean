/- Joined texts: YT YU YV YW YX. -/
import Derived.Test.YtphlojgmfkgeiaaGreatDoorKd
import Derived.Test.YtphlojgmfkgeiaaGreatDoorKa
import Derived.Laws.MakeOwn
import Derived.Lib.SliceRun
import Derived.Laws.CopyOwn
import Derived.Test.YtphlojgmfkgeiaaGreatDoorKb
/- The check of a yard. -/
namespace Go.Proofs.YtphlojgmfkgeiaaGreatDoor
open Go.RowKit Go.Sort Go.Shelf
set_option linter.unusedSimpArgs false
set_option linter.unusedVariables false
attribute [local go_sem] cell_if frozen_if grow_cell
def kindsL : List ByteArray := [⟨#[98, 114, 101, 97, 107, 101, 114]⟩, ⟨#[105, 115, 111, 108, 97, 116, 111, 114]⟩, ⟨#[101, 97, 114, 116, 104]⟩]
def goalsL : List ByteArray := [⟨#[101, 110, 101, 114, 103, 105, 122, 101, 100]⟩, ⟨#[100, 101, 97, 100]⟩, ⟨#[115, 101, 99, 117, 114, 101, 100]⟩]
/-- The lists of the kinds of switches and of goals lie where the program's text lays them. -/
structure Tabs (w : World) : Prop where
  k0 : w.cell? ⟨1, 0, none⟩ = some (.string ⟨#[98, 114, 101, 97, 107, 101, 114]⟩)
  k1 : w.cell? ⟨1, 1, none⟩ = some (.string ⟨#[105, 115, 111, 108, 97, 116, 111, 114]⟩)
  k2 : w.cell? ⟨1, 2, none⟩ = some (.string ⟨#[101, 97, 114, 116, 104]⟩)
  g0 : w.cell? ⟨0, 0, none⟩ = some (.string ⟨#[101, 110, 101, 114, 103, 105, 122, 101, 100]⟩)
  g1 : w.cell? ⟨0, 1, none⟩ = some (.string ⟨#[100, 101, 97, 100]⟩)
  g2 : w.cell? ⟨0, 2, none⟩ = some (.string ⟨#[115, 101, 99, 117, 114, 101, 100]⟩)
  lt : 1 < w.heap.size
  lt' : 0 < w.heap.size
theorem Tabs.kept {w w' : World} (h : Tabs w) (hb : Below w.heap.size w w') : Tabs w' := by
  have k : ∀ o, w'.cell? ⟨1, o, none⟩ = w.cell? ⟨1, o, none⟩ := fun o => hb.cell (p := ⟨_, o, none⟩) h.lt
  have g : ∀ o, w'.cell? ⟨0, o, none⟩ = w.cell? ⟨0, o, none⟩ := fun o => hb.cell (p := ⟨_, o, none⟩) h.lt'
  exact ⟨(k _).trans h.k0, (k _).trans h.k1, (k _).trans h.k2, (g _).trans h.g0, (g _).trans h.g1, (g _).trans h.g2, Nat.lt_of_lt_of_le h.lt hb.size, Nat.lt_of_lt_of_le h.lt' hb.size⟩
theorem reads3 {w : World} {g : Nat} {a b c : ByteArray} (h0 : w.cell? ⟨g, 0, none⟩ = some (.string a)) (h1 : w.cell? ⟨g, 1, none⟩ = some (.string b)) (h2 : w.cell? ⟨g, 2, none⟩ = some (.string c)) (hg : g < w.heap.size) : Reads w w.heap.size 1 (some ⟨g, 0, none⟩) 3 ([a, b, c].map .string) :=
  ⟨rfl, fun _ => ⟨g, 0, rfl, hg, fun j u hu => by
    rw [Nat.zero_add]
    match j, hu with
    | 0, hu => cases hu; exact h0
    | 1, hu => cases hu; exact h1
    | 2, hu => cases hu; exact h2⟩⟩
theorem Tabs.kinds {w : World} (h : Tabs w) : Reads w w.heap.size 1 (some ⟨1, 0, none⟩) 3 (kindsL.map .string) := reads3 h.k0 h.k1 h.k2 h.lt
theorem Tabs.goals {w : World} (h : Tabs w) : Reads w w.heap.size 1 (some ⟨0, 0, none⟩) 3 (goalsL.map .string) := reads3 h.g0 h.g1 h.g2 h.lt'
theorem hasW_kinds (k : ByteArray) : hasW kindsL k = kindB k := by
  unfold hasW kindsL kindB
  simp only [List.any_cons, List.any_nil, Bool.or_false, toList_data]
  show (breakerL == k.data.toList || (isolatorL == k.data.toList || earthL == k.data.toList)) = _
  rw [BEq.comm (a := breakerL), BEq.comm (a := isolatorL), BEq.comm (a := earthL), Bool.or_assoc]
set_option maxRecDepth 100000 in
set_option maxHeartbeats 2000000 in
theorem checkSwitch_any (A0 A1 A2 : Option Addr) (n0 n1 n2 c0 c1 c2 : Nat) (x : Sw) (w : World) (hT : Tabs w) :
    Calls Tryz.prog 113 #[.agg #[.slice A0 n0 c0, .slice A1 n1 c1, .slice A2 n2 c2], .agg #[.string x.n, .string x.k, .int .i64 x.a, .int .i64 x.b, .bool x.c]] w fun e w' => e = .returned (.int .i64 (swE n0 x)) ∧ Below w.heap.size w w' := by
  obtain ⟨xn, xk, xa, xb, xc⟩ := x
  have HC := Lib.hid (fun W (hW : Below w.heap.size w W) => ContainsW_any W.heap.size _ 3 3 kindsL xk W (hT.kept hW).kinds (by unfold maxLen; decide))
  rw [hasW_kinds] at HC
  have HA := Lib.hid (fun W => phas_any A0 A1 A2 n0 n1 n2 c0 c1 c2 xa W)
  have HB := Lib.hid (fun W => phas_any A0 A1 A2 n0 n1 n2 c0 c1 c2 xb W)
  have hS : Hid (swE n0 ⟨xn, xk, xa, xb, xc⟩ = if kindB xk then (if xk.toList == earthL then firstE [whenE (!hasN n0 xa) 10, whenE (!(xb == -1)) 24] else firstE [whenE (!hasN n0 xa || !hasN n0 xb) 10, whenE (xa == xb) 24]) else 13) := rfl
  change Hid (∀ W, Calls Tryz.prog 115 _ W fun e w' => e = .returned (.bool (hasN n0 xa)) ∧ _) at HA
  change Hid (∀ W, Calls Tryz.prog 115 _ W fun e w' => e = .returned (.bool (hasN n0 xb)) ∧ _) at HB
  generalize kindB xk = kq at *
  generalize hasN n0 xa = aq at *
  generalize hasN n0 xb = bq at *
  unfold earthL at hS
  rw [hS.out]
  clear hS hT
  cases kq with
  | false =>
    (try simp only [if_true, if_false, Bool.false_eq_true])
    go_enter Tryz.func113, Tryz.ntmps113
    go_wp2_with fail
    (refine wp_region_calm [] [0, 1, 2, 3, 4] 0 (by kernel_rfl) rfl (by kernel_rfl) (by kernel_rfl) (by kernel_rfl) ?_; simp only [pickB, List.filterMap_cons, List.filterMap_nil, List.getElem?_toArray, List.getElem?_cons_zero, List.getElem?_cons_succ]; (repeat (first | ((with_reducible refine quietL_plain rfl (fun K hK => ?_)); (apply Exists.intro; refine ⟨fun wx hx => ?_, ?_⟩; (· (have hcx := ifs_ex hx); simp [go_sem, *, ↓IntWalk.iteOmega] <;> (first | rfl | exact ⟨rfl, rfl⟩ | (have hbx := Ex.below hx; exact calls_B (calls_below (HC.out _ bl_))))); (simp only [Act.put, List.setIfInBounds_toArray, List.set_cons_zero, List.set_cons_succ]; refine hK _ ?_; clear hK K))) | ((with_reducible refine quietL_skip (by with_unfolding_all rfl) ?_); simp only [Act.put, List.setIfInBounds_toArray, List.set_cons_zero, List.set_cons_succ]) | ((with_reducible refine quietL_want (by with_unfolding_all rfl) (fun K hK => ?_)); (apply Exists.intro; refine ⟨fun wx hx => ?_, ?_⟩; (· (have hcx := ifs_ex hx); simp [go_sem, *, ↓IntWalk.iteOmega] <;> (first | rfl | exact ⟨rfl, rfl⟩ | (have hbx := Ex.below hx; exact calls_B (calls_below (HC.out _ bl_))))); (simp only [Act.put, List.setIfInBounds_toArray, List.set_cons_zero, List.set_cons_succ]; refine hK _ ?_; clear hK K))))); refine quietL_nil ?_)
    (refine anyB_end (by kernel_rfl) ?_; intro w5 hb5; obtain ⟨hc5, hf5⟩ := ifs_of hb5; have hs5 := hb5.size; (try simp at hs5); simp only [Calm]; go_wp2_with fail)
    go_ret
    exact ⟨rfl, bl_⟩
  | true =>
    (try simp only [if_true, if_false, Bool.false_eq_true])
    cases hk : (xk.toList == [101, 97, 114, 116, 104]) with
    | true =>
      (try simp only [if_true, if_false, Bool.false_eq_true])
      have HW1 := Lib.hid (fun W => pwhen_any (!aq) 10 W)
      have HW2 := Lib.hid (fun W => pwhen_any (!(xb == -1)) 24 W)
      generalize whenE (!aq) 10 = va at *
      generalize whenE (!(xb == -1)) 24 = vb at *
      cases hb : (xb == -1) <;> cases aq
      all_goals
        rw [hb] at HW2
        have HBQ := Lib.hid hb
        have e2 : ∀ (d : Nat) (xs ys : Array Value) (w : World), (Op.equalIn (d + 1) 199 (.agg xs) (.agg ys)).run Tryz.prog w = (eqElems d 3 1 xs ys [0, 1]).run Tryz.prog w := fun d xs ys w => run_equalIn_array (P := Tryz.prog) w d _ _ 2 1 xs ys Tryz.underlying199 (by kernel_rfl)
        go_enter Tryz.func113, Tryz.ntmps113
        go_wp2_with fail
        (refine wp_region_calm [] [0, 1, 2, 3, 4] 0 (by kernel_rfl) rfl (by kernel_rfl) (by kernel_rfl) (by kernel_rfl) ?_; simp only [pickB, List.filterMap_cons, List.filterMap_nil, List.getElem?_toArray, List.getElem?_cons_zero, List.getElem?_cons_succ]; (repeat (first | ((with_reducible refine quietL_plain rfl (fun K hK => ?_)); (apply Exists.intro; refine ⟨fun wx hx => ?_, ?_⟩; (· (have hcx := ifs_ex hx); simp [go_sem, *, ↓IntWalk.iteOmega] <;> (first | rfl | exact ⟨rfl, rfl⟩ | (have hbx := Ex.below hx; exact calls_B (calls_below (HC.out _ bl_))))); (simp only [Act.put, List.setIfInBounds_toArray, List.set_cons_zero, List.set_cons_succ]; refine hK _ ?_; clear hK K))) | ((with_reducible refine quietL_skip (by with_unfolding_all rfl) ?_); simp only [Act.put, List.setIfInBounds_toArray, List.set_cons_zero, List.set_cons_succ]) | ((with_reducible refine quietL_want (by with_unfolding_all rfl) (fun K hK => ?_)); (apply Exists.intro; refine ⟨fun wx hx => ?_, ?_⟩; (· (have hcx := ifs_ex hx); simp [go_sem, *, ↓IntWalk.iteOmega] <;> (first | rfl | exact ⟨rfl, rfl⟩ | (have hbx := Ex.below hx; exact calls_B (calls_below (HC.out _ bl_))))); (simp only [Act.put, List.setIfInBounds_toArray, List.set_cons_zero, List.set_cons_succ]; refine hK _ ?_; clear hK K))))); refine quietL_nil ?_)
        (refine anyB_end (by kernel_rfl) ?_; intro w5 hb5; obtain ⟨hc5, hf5⟩ := ifs_of hb5; have hs5 := hb5.size; (try simp at hs5); simp only [Calm]; go_wp2_with fail)
        (refine wp_region_calm [] [0, 1, 2, 3, 4, 5, 6, 7, 8, 9, 10, 11] 3 (by kernel_rfl) rfl (by kernel_rfl) (by kernel_rfl) (by kernel_rfl) ?_; simp only [pickB, List.filterMap_cons, List.filterMap_nil, List.getElem?_toArray, List.getElem?_cons_zero, List.getElem?_cons_succ]; (repeat (first | ((with_reducible refine quietL_plain rfl (fun K hK => ?_)); (apply Exists.intro; refine ⟨fun wx hx => ?_, ?_⟩; (· (have hcx := ifs_ex hx); simp [go_sem, *, ↓IntWalk.iteOmega] <;> (first | rfl | exact ⟨rfl, rfl⟩ | (have hbx := Ex.below hx; first | exact calls_B (HA.out _) | exact calls_B (calls_below (HW1.out _)) | exact calls_B (calls_below (HW2.out _))))); (simp only [Act.put, List.setIfInBounds_toArray, List.set_cons_zero, List.set_cons_succ]; refine hK _ ?_; clear hK K))) | ((with_reducible refine quietL_skip (by with_unfolding_all rfl) ?_); simp only [Act.put, List.setIfInBounds_toArray, List.set_cons_zero, List.set_cons_succ]) | ((with_reducible refine quietL_want (by with_unfolding_all rfl) (fun K hK => ?_)); (apply Exists.intro; refine ⟨fun wx hx => ?_, ?_⟩; (· (have hcx := ifs_ex hx); simp [go_sem, *, ↓IntWalk.iteOmega] <;> (first | rfl | exact ⟨rfl, rfl⟩ | (have hbx := Ex.below hx; first | exact calls_B (HA.out _) | exact calls_B (calls_below (HW1.out _)) | exact calls_B (calls_below (HW2.out _))))); (simp only [Act.put, List.setIfInBounds_toArray, List.set_cons_zero, List.set_cons_succ]; refine hK _ ?_; clear hK K))))); refine quietL_nil ?_)
        (refine anyB_one (i := 12) (by kernel_rfl) rfl rfl ?_; intro w6 hb6 K hK; obtain ⟨hc6, hf6⟩ := ifs_of hb6; have hs6 := hb6.size; (try simp at hs6); go_wp2; refine ⟨xs_, ?_⟩)
        (refine anyB_one (i := 13) (by kernel_rfl) rfl rfl ?_; intro w7 hb7 K hK; obtain ⟨hc7, hf7⟩ := ifs_of hb7; have hs7 := hb7.size; (try simp at hs7); go_wp2_with fail; refine (pfirst_any (w6.heap.size + 1) _ 2 2 [va, vb] _ ((by simpa using Reads.new (size := 1) w6 (([va, vb]).map (.int .i64)).toArray 34 2 rfl : Reads (w6.alloc (.cells (([va, vb]).map (.int .i64)).toArray 34)) (w6.heap.size + 1) 1 (some ⟨w6.heap.size, 0, none⟩) 2 (([va, vb]).map (.int .i64))).below (hb7.mono (by simp))) (by unfold maxLen; decide)).mono ?_; rintro e w7' ⟨rfl, rfl⟩; go_wp2; refine ⟨xs_, ?_⟩)
        (refine anyB_one (i := 14) (by kernel_rfl) rfl rfl ?_; intro w8 hb8 K hK; obtain ⟨hc8, hf8⟩ := ifs_of hb8; have hs8 := hb8.size; (try simp at hs8); go_wp2; refine ⟨xs_, ?_⟩)
        (refine anyB_end (by kernel_rfl) ?_; intro w9 hb9; obtain ⟨hc9, hf9⟩ := ifs_of hb9; have hs9 := hb9.size; (try simp at hs9); simp only [Calm]; go_wp2_with fail)
        go_ret
        exact ⟨rfl, bl_⟩
    | false =>
      (try simp only [if_true, if_false, Bool.false_eq_true])
      have HW1 := Lib.hid (fun W => pwhen_any (!aq || !bq) 10 W)
      have HW2 := Lib.hid (fun W => pwhen_any (xa == xb) 24 W)
      generalize whenE (!aq || !bq) 10 = va at *
      generalize whenE (xa == xb) 24 = vb at *
      cases aq <;> cases bq
      all_goals
        go_enter Tryz.func113, Tryz.ntmps113
        go_wp2_with fail
        (refine wp_region_calm [] [0, 1, 2, 3, 4] 0 (by kernel_rfl) rfl (by kernel_rfl) (by kernel_rfl) (by kernel_rfl) ?_; simp only [pickB, List.filterMap_cons, List.filterMap_nil, List.getElem?_toArray, List.getElem?_cons_zero, List.getElem?_cons_succ]; (repeat (first | ((with_reducible refine quietL_plain rfl (fun K hK => ?_)); (apply Exists.intro; refine ⟨fun wx hx => ?_, ?_⟩; (· (have hcx := ifs_ex hx); simp [go_sem, *, ↓IntWalk.iteOmega] <;> (first | rfl | exact ⟨rfl, rfl⟩ | (have hbx := Ex.below hx; exact calls_B (calls_below (HC.out _ bl_))))); (simp only [Act.put, List.setIfInBounds_toArray, List.set_cons_zero, List.set_cons_succ]; refine hK _ ?_; clear hK K))) | ((with_reducible refine quietL_skip (by with_unfolding_all rfl) ?_); simp only [Act.put, List.setIfInBounds_toArray, List.set_cons_zero, List.set_cons_succ]) | ((with_reducible refine quietL_want (by with_unfolding_all rfl) (fun K hK => ?_)); (apply Exists.intro; refine ⟨fun wx hx => ?_, ?_⟩; (· (have hcx := ifs_ex hx); simp [go_sem, *, ↓IntWalk.iteOmega] <;> (first | rfl | exact ⟨rfl, rfl⟩ | (have hbx := Ex.below hx; exact calls_B (calls_below (HC.out _ bl_))))); (simp only [Act.put, List.setIfInBounds_toArray, List.set_cons_zero, List.set_cons_succ]; refine hK _ ?_; clear hK K))))); refine quietL_nil ?_)
        (refine anyB_end (by kernel_rfl) ?_; intro w5 hb5; obtain ⟨hc5, hf5⟩ := ifs_of hb5; have hs5 := hb5.size; (try simp at hs5); simp only [Calm]; go_wp2_with fail)
        (refine wp_region_calm [] [0, 1, 2, 3, 4, 5, 6, 7, 8, 9, 10, 11, 12, 13, 14, 15, 16, 17, 18] 3 (by kernel_rfl) rfl (by kernel_rfl) (by kernel_rfl) (by kernel_rfl) ?_; simp only [pickB, List.filterMap_cons, List.filterMap_nil, List.getElem?_toArray, List.getElem?_cons_zero, List.getElem?_cons_succ]; (repeat (first | ((with_reducible refine quietL_plain rfl (fun K hK => ?_)); (apply Exists.intro; refine ⟨fun wx hx => ?_, ?_⟩; (· (have hcx := ifs_ex hx); simp [go_sem, *, ↓IntWalk.iteOmega] <;> (first | rfl | exact ⟨rfl, rfl⟩ | (have hbx := Ex.below hx; first | (with_reducible exact calls_B (HA.out _)) | (with_reducible exact calls_B (HB.out _)) | exact calls_B (calls_below (HW1.out _)) | exact calls_B (calls_below (HW2.out _))))); (simp only [Act.put, List.setIfInBounds_toArray, List.set_cons_zero, List.set_cons_succ]; refine hK _ ?_; clear hK K))) | ((with_reducible refine quietL_skip (by with_unfolding_all rfl) ?_); simp only [Act.put, List.setIfInBounds_toArray, List.set_cons_zero, List.set_cons_succ]) | ((with_reducible refine quietL_want (by with_unfolding_all rfl) (fun K hK => ?_)); (apply Exists.intro; refine ⟨fun wx hx => ?_, ?_⟩; (· (have hcx := ifs_ex hx); simp [go_sem, *, ↓IntWalk.iteOmega] <;> (first | rfl | exact ⟨rfl, rfl⟩ | (have hbx := Ex.below hx; first | (with_reducible exact calls_B (HA.out _)) | (with_reducible exact calls_B (HB.out _)) | exact calls_B (calls_below (HW1.out _)) | exact calls_B (calls_below (HW2.out _))))); (simp only [Act.put, List.setIfInBounds_toArray, List.set_cons_zero, List.set_cons_succ]; refine hK _ ?_; clear hK K))))); refine quietL_nil ?_)
        (refine anyB_one (i := 19) (by kernel_rfl) rfl rfl ?_; intro w6 hb6 K hK; obtain ⟨hc6, hf6⟩ := ifs_of hb6; have hs6 := hb6.size; (try simp at hs6); go_wp2; refine ⟨xs_, ?_⟩)
        (refine anyB_one (i := 20) (by kernel_rfl) rfl rfl ?_; intro w7 hb7 K hK; obtain ⟨hc7, hf7⟩ := ifs_of hb7; have hs7 := hb7.size; (try simp at hs7); go_wp2_with fail; refine (pfirst_any (w6.heap.size + 1) _ 2 2 [va, vb] _ ((by simpa using Reads.new (size := 1) w6 (([va, vb]).map (.int .i64)).toArray 34 2 rfl : Reads (w6.alloc (.cells (([va, vb]).map (.int .i64)).toArray 34)) (w6.heap.size + 1) 1 (some ⟨w6.heap.size, 0, none⟩) 2 (([va, vb]).map (.int .i64))).below (hb7.mono (by simp))) (by unfold maxLen; decide)).mono ?_; rintro e w7' ⟨rfl, rfl⟩; go_wp2; refine ⟨xs_, ?_⟩)
        (refine anyB_one (i := 21) (by kernel_rfl) rfl rfl ?_; intro w8 hb8 K hK; obtain ⟨hc8, hf8⟩ := ifs_of hb8; have hs8 := hb8.size; (try simp at hs8); go_wp2; refine ⟨xs_, ?_⟩)
        (refine anyB_end (by kernel_rfl) ?_; intro w9 hb9; obtain ⟨hc9, hf9⟩ := ifs_of hb9; have hs9 := hb9.size; (try simp at hs9); simp only [Calm]; go_wp2_with fail)
        go_ret
        exact ⟨rfl, bl_⟩
end Go.Proofs.YtphlojgmfkgeiaaGreatDoor
/- CheckYard. -/
namespace Go.Proofs.YtphlojgmfkgeiaaGreatDoor
open Go.RowKit Go.Sort Go.Shelf
set_option linter.unusedSimpArgs false
set_option linter.unusedVariables false
attribute [local go_sem] cell_if frozen_if grow_cell
/-- A yard of a size that the machine may hold. -/
structure Fits (y : Yd) : Prop where
  s9 : y.s.length ≤ 9
  w9 : y.w.length ≤ 9
  p9 : y.p.length ≤ 9
  sn : ∀ x ∈ y.s, x.n.size ≤ maxLen
  wn : ∀ x ∈ y.w, x.n.size ≤ maxLen
  pn : ∀ x ∈ y.p, x.n.size ≤ maxLen
/-- A yard of a size that a text of 300 bytes may hold. -/
structure FitsL (y : Yd) : Prop where
  s9 : y.s.length ≤ 400
  w9 : y.w.length ≤ 400
  p9 : y.p.length ≤ 400
  sn : ∀ x ∈ y.s, x.n.size ≤ maxLen
  wn : ∀ x ∈ y.w, x.n.size ≤ maxLen
  pn : ∀ x ∈ y.p, x.n.size ≤ maxLen
theorem Fits.long {y : Yd} (h : Fits y) : FitsL y :=
  ⟨Nat.le_trans h.s9 (by decide), Nat.le_trans h.w9 (by decide), Nat.le_trans h.p9 (by decide), h.sn, h.wn, h.pn⟩
theorem none_any (x : Sec) (w : World) : Calls Tryz.prog 107 #[.agg #[.string x.n, .bool x.src]] w fun e w' => e = .returned (.int .i64 0) ∧ Below w.heap.size w w' := by
  go_enter Tryz.func107, Tryz.ntmps107
  go_wp2
  go_ret
  exact ⟨rfl, bl_⟩
theorem known_any (g : Nat) (A0 A1 A2 : Option Addr) (n0 n1 n2 c0 c1 c2 : Nat) (x : Pm) (w : World) (hb : Blk w g 41 #[.slice A0 n0 c0, .slice A1 n1 c1, .slice A2 n2 c2]) :
    Calls Tryz.prog 114 #[.agg #[.string x.n, .int .i64 x.s], .pointer (some ⟨g, 0, none⟩)] w fun e w' => e = .returned (.int .i64 (whenE (!hasN n0 x.s) 10)) ∧ Below w.heap.size w w' := by
  obtain ⟨xn, xs⟩ := x
  have hc := hb.cell
  have hlt := hb.lt
  have HA := Lib.hid (fun W => phas_any A0 A1 A2 n0 n1 n2 c0 c1 c2 xs W)
  change Hid (∀ W, Calls Tryz.prog 115 _ W fun e w' => e = .returned (.bool (hasN n0 xs)) ∧ _) at HA
  dsimp only
  generalize hasN n0 xs = q at *
  clear hb
  go_enter Tryz.func114, Tryz.ntmps114
  go_wp2_with fail
  refine (HA.out _).mono ?_
  (rintro e w1 ⟨rfl, hb1⟩; have hs1 := hb1.size; (try simp at hs1))
  go_wp2_with fail
  refine (pwhen_any _ _ _).mono ?_
  rintro e w2 ⟨rfl, rfl⟩
  go_wp2_with fail
  go_ret
  exact ⟨rfl, bl_⟩
set_option maxRecDepth 100000 in
set_option maxHeartbeats 4000000 in
theorem CheckYardL_any (B : Nat) (A0 A1 A2 : Option Addr) (n0 n1 n2 c0 c1 c2 : Nat) (y : Yd) (w : World) (hY : YdAt w B A0 A1 A2 n0 n1 n2 y) (hB : B ≤ w.heap.size) (hT : Tabs w) (hF : FitsL y) :
    Calls Tryz.prog 36 #[.agg #[.slice A0 n0 c0, .slice A1 n1 c1, .slice A2 n2 c2]] w fun e w' => e = .returned (.int .i64 (yardE y)) ∧ Below w.heap.size w w' := by
  have hl0 := (sec_at hY.hs).1
  have hl1 := (sw_at hY.hw).1
  have hl2 := (pm_at hY.hp).1
  have H1 := Lib.hid (fun W (hW : Below w.heap.size w W) => checkAllSec_any 107 #[] #[] B A0 n0 c0 y.s (fun _ => 0) W (hY.hs.below (hW.mono hB)) (by have := hW.size; omega) (by have := hF.s9; omega) hF.sn (enters_of Tryz.func107 (by kernel_rfl) rfl) (fun W' _ x _ => by simpa using none_any x W'))
  have H2 := Lib.hid (fun W (hW : Below w.heap.size w W) => checkAllSw_any 113 #[.agg #[.slice A0 n0 c0, .slice A1 n1 c1, .slice A2 n2 c2]] #[] B A1 n1 c1 y.w (swE n0) W (hY.hw.below (hW.mono hB)) (by have := hW.size; omega) (by have := hF.w9; omega) hF.wn (enters_of Tryz.func113 (by kernel_rfl) rfl) (fun W' hW' x _ => by simpa using checkSwitch_any A0 A1 A2 n0 n1 n2 c0 c1 c2 x W' (hT.kept (hW.trans (hW'.mono hW.size)))))
  have H3 := Lib.hid (fun W (hW : Below w.heap.size w W) g (hg : Blk W g 41 #[.slice A0 n0 c0, .slice A1 n1 c1, .slice A2 n2 c2]) => checkAllPm_any 114 #[] #[.pointer (some ⟨g, 0, none⟩)] B A2 n2 c2 y.p (fun x => whenE (!hasN n0 x.s) 10) W (hY.hp.below (hW.mono hB)) (by have := hW.size; omega) (by have := hF.p9; omega) hF.pn (enters_of Tryz.func114 (by kernel_rfl) rfl) (fun W' hW' x _ => by simpa using known_any g A0 A1 A2 n0 n1 n2 c0 c1 c2 x W' (hg.kept hW')))
  have H4 := Lib.hid (fun W (hW : Below w.heap.size w W) (hP : Parts y) => sound_any B A0 A1 A2 n0 n1 n2 c0 c1 c2 y W (hY.below (hW.mono hB)) (by have := hW.size; omega) hP)
  have HW0 := Lib.hid (fun W => pwhen_any ((n0 : Int) == 0) 12 W)
  have HW4 := Lib.hid (fun W => pwhen_any (!soundB y) 22 W)
  have hE : Hid (yardE y = or0 (firstE [whenE ((n0 : Int) == 0) 12, chkAll (y.s.map fun x => (x.n, 0))]) (or0 (chkAll (y.w.map fun x => (x.n, swE n0 x))) (or0 (chkAll (y.p.map fun x => (x.n, whenE (!hasN n0 x.s) 10))) (whenE (!soundB y) 22)))) := by
    show _ = _
    have hz : ((n0 : Int) == 0) = y.s.isEmpty := by
      rw [Bool.eq_iff_iff]
      simp only [beq_iff_eq, List.isEmpty_iff, ← List.length_eq_zero_iff, hl0]
      omega
    have assoc : ∀ a b c : Int, or0 (or0 a b) c = or0 a (or0 b c) := fun a b c => by unfold or0; split <;> simp_all
    rw [hz, ← hl0, yardE, partsE, firstE_cons, firstE_cons, firstE_nil]
    have or_zero : ∀ a : Int, or0 a 0 = a := fun a => by unfold or0; split <;> simp_all
    rw [or_zero, assoc, assoc, assoc, assoc]
    rfl
  have hPP : Hid (firstE [whenE ((n0 : Int) == 0) 12, chkAll (y.s.map fun x => (x.n, 0))] = 0 → chkAll (y.w.map fun x => (x.n, swE n0 x)) = 0 → chkAll (y.p.map fun x => (x.n, whenE (!hasN n0 x.s) 10)) = 0 → Parts y) := fun h1 h2 h3 => by
    refine parts_of ?_
    rw [firstE_cons, firstE_cons, firstE_nil] at h1
    obtain ⟨g1, g2⟩ := or0_zero h1
    obtain ⟨g2, _⟩ := or0_zero g2
    have hz : ((n0 : Int) == 0) = y.s.isEmpty := by
      rw [Bool.eq_iff_iff]
      simp only [beq_iff_eq, List.isEmpty_iff, ← List.length_eq_zero_iff, hl0]
      omega
    rw [hz] at g1
    rw [partsE, g1, show secChk y.s = 0 from g2, hl0, show swChk n0 y.w = 0 from h2, show pmChk n0 y.p = 0 from h3]
    rfl
  rw [hE.out]
  generalize whenE ((n0 : Int) == 0) 12 = a1 at *
  generalize chkAll (y.s.map fun x => (x.n, 0)) = a2 at *
  generalize chkAll (y.w.map fun x => (x.n, swE n0 x)) = a3 at *
  generalize chkAll (y.p.map fun x => (x.n, whenE (!hasN n0 x.s) 10)) = a4 at *
  generalize soundB y = sq at *
  clear hY hT hF hE hl0 hl1 hl2
  generalize hee : firstE [a1, a2] = ee at *
  have HEE := Lib.hid hee
  clear hee
  cases h1 : (ee != 0) with
  | true =>
    have HZ : Hid (or0 ee (or0 a3 (or0 a4 (whenE (!sq) 22))) = ee) := by show _ = _; unfold or0; rw [if_neg (by simpa using h1)]
    rw [HZ.out]
    go_enter Tryz.func36, Tryz.ntmps36
    go_wp2_with fail
    (refine wp_region_calm [] [0, 1, 2, 3, 4, 5, 6, 7, 8] 3 (by kernel_rfl) rfl (by kernel_rfl) (by kernel_rfl) (by kernel_rfl) ?_; simp only [pickB, List.filterMap_cons, List.filterMap_nil, List.getElem?_toArray, List.getElem?_cons_zero, List.getElem?_cons_succ]; (repeat (first | ((with_reducible refine quietL_plain rfl (fun K hK => ?_)); (apply Exists.intro; refine ⟨fun wx hx => ?_, ?_⟩; (· (have hcx := ifs_ex hx); simp [go_sem, *, ↓IntWalk.iteOmega] <;> (first | rfl | exact ⟨rfl, rfl⟩ | (have hbx := Ex.below hx; first | (with_reducible exact calls_B (calls_below (HW0.out _))) | exact calls_B (H1.out _ bl_)))); (simp only [Act.put, List.setIfInBounds_toArray, List.set_cons_zero, List.set_cons_succ]; refine hK _ ?_; clear hK K))) | ((with_reducible refine quietL_skip (by with_unfolding_all rfl) ?_); simp only [Act.put, List.setIfInBounds_toArray, List.set_cons_zero, List.set_cons_succ]) | ((with_reducible refine quietL_want (by with_unfolding_all rfl) (fun K hK => ?_)); (apply Exists.intro; refine ⟨fun wx hx => ?_, ?_⟩; (· (have hcx := ifs_ex hx); simp [go_sem, *, ↓IntWalk.iteOmega] <;> (first | rfl | exact ⟨rfl, rfl⟩ | (have hbx := Ex.below hx; first | (with_reducible exact calls_B (calls_below (HW0.out _))) | exact calls_B (H1.out _ bl_)))); (simp only [Act.put, List.setIfInBounds_toArray, List.set_cons_zero, List.set_cons_succ]; refine hK _ ?_; clear hK K))))); refine quietL_nil ?_)
    (refine anyB_one (i := 9) (by kernel_rfl) rfl rfl ?_; intro w2 hb2 K hK; obtain ⟨hc2, hf2⟩ := ifs_of hb2; have hs2 := hb2.size; (try simp at hs2); go_wp2; refine ⟨xs_, ?_⟩)
    (refine anyB_one (i := 10) (by kernel_rfl) rfl rfl ?_; intro w3 hb3 K hK; obtain ⟨hc3, hf3⟩ := ifs_of hb3; have hs3 := hb3.size; (try simp at hs3); go_wp2_with fail; refine (pfirst_any (w2.heap.size + 1) _ 2 2 [a1, a2] _ ((by simpa using Reads.new (size := 1) w2 (([a1, a2]).map (.int .i64)).toArray 34 2 rfl : Reads (w2.alloc (.cells (([a1, a2]).map (.int .i64)).toArray 34)) (w2.heap.size + 1) 1 (some ⟨w2.heap.size, 0, none⟩) 2 (([a1, a2]).map (.int .i64))).below (hb3.mono (by simp))) (by unfold maxLen; decide)).mono ?_; rintro e w3' ⟨rfl, rfl⟩; go_wp2; refine ⟨xs_, ?_⟩)
    rw [HEE.out]
    (refine anyB_one (i := 11) (by kernel_rfl) rfl rfl ?_; intro w4 hb4 K hK; obtain ⟨hc4, hf4⟩ := ifs_of hb4; have hs4 := hb4.size; (try simp at hs4); go_wp2; refine ⟨xs_, ?_⟩)
    (refine anyB_end (by kernel_rfl) ?_; intro w5 hb5; obtain ⟨hc5, hf5⟩ := ifs_of hb5; have hs5 := hb5.size; (try simp at hs5); simp only [Calm]; go_wp2_with fail)
    go_ret
    exact ⟨rfl, bl_⟩
  | false =>
    obtain rfl : ee = 0 := by simpa using h1
    rw [show or0 0 (or0 a3 (or0 a4 (whenE (!sq) 22))) = or0 a3 (or0 a4 (whenE (!sq) 22)) from rfl]
    clear h1
    have reg2 : ∀ (e3 : Int), e3 = e3 := fun _ => rfl
    clear reg2
    cases h2 : (a3 != 0) with
    | true =>
      have HZ : Hid (or0 a3 (or0 a4 (whenE (!sq) 22)) = a3) := by show _ = _; unfold or0; rw [if_neg (by simpa using h2)]
      rw [HZ.out]
      go_enter Tryz.func36, Tryz.ntmps36
      go_wp2_with fail
      (refine wp_region_calm [] [0, 1, 2, 3, 4, 5, 6, 7, 8] 3 (by kernel_rfl) rfl (by kernel_rfl) (by kernel_rfl) (by kernel_rfl) ?_; simp only [pickB, List.filterMap_cons, List.filterMap_nil, List.getElem?_toArray, List.getElem?_cons_zero, List.getElem?_cons_succ]; (repeat (first | ((with_reducible refine quietL_plain rfl (fun K hK => ?_)); (apply Exists.intro; refine ⟨fun wx hx => ?_, ?_⟩; (· (have hcx := ifs_ex hx); simp [go_sem, *, ↓IntWalk.iteOmega] <;> (first | rfl | exact ⟨rfl, rfl⟩ | (have hbx := Ex.below hx; first | (with_reducible exact calls_B (calls_below (HW0.out _))) | exact calls_B (H1.out _ bl_)))); (simp only [Act.put, List.setIfInBounds_toArray, List.set_cons_zero, List.set_cons_succ]; refine hK _ ?_; clear hK K))) | ((with_reducible refine quietL_skip (by with_unfolding_all rfl) ?_); simp only [Act.put, List.setIfInBounds_toArray, List.set_cons_zero, List.set_cons_succ]) | ((with_reducible refine quietL_want (by with_unfolding_all rfl) (fun K hK => ?_)); (apply Exists.intro; refine ⟨fun wx hx => ?_, ?_⟩; (· (have hcx := ifs_ex hx); simp [go_sem, *, ↓IntWalk.iteOmega] <;> (first | rfl | exact ⟨rfl, rfl⟩ | (have hbx := Ex.below hx; first | (with_reducible exact calls_B (calls_below (HW0.out _))) | exact calls_B (H1.out _ bl_)))); (simp only [Act.put, List.setIfInBounds_toArray, List.set_cons_zero, List.set_cons_succ]; refine hK _ ?_; clear hK K))))); refine quietL_nil ?_)
      (refine anyB_one (i := 9) (by kernel_rfl) rfl rfl ?_; intro w2 hb2 K hK; obtain ⟨hc2, hf2⟩ := ifs_of hb2; have hs2 := hb2.size; (try simp at hs2); go_wp2; refine ⟨xs_, ?_⟩)
      (refine anyB_one (i := 10) (by kernel_rfl) rfl rfl ?_; intro w3 hb3 K hK; obtain ⟨hc3, hf3⟩ := ifs_of hb3; have hs3 := hb3.size; (try simp at hs3); go_wp2_with fail; refine (pfirst_any (w2.heap.size + 1) _ 2 2 [a1, a2] _ ((by simpa using Reads.new (size := 1) w2 (([a1, a2]).map (.int .i64)).toArray 34 2 rfl : Reads (w2.alloc (.cells (([a1, a2]).map (.int .i64)).toArray 34)) (w2.heap.size + 1) 1 (some ⟨w2.heap.size, 0, none⟩) 2 (([a1, a2]).map (.int .i64))).below (hb3.mono (by simp))) (by unfold maxLen; decide)).mono ?_; rintro e w3' ⟨rfl, rfl⟩; go_wp2; refine ⟨xs_, ?_⟩)
      rw [HEE.out]
      (refine anyB_one (i := 11) (by kernel_rfl) rfl rfl ?_; intro w4 hb4 K hK; obtain ⟨hc4, hf4⟩ := ifs_of hb4; have hs4 := hb4.size; (try simp at hs4); go_wp2; refine ⟨xs_, ?_⟩)
      (refine anyB_end (by kernel_rfl) ?_; intro w5 hb5; obtain ⟨hc5, hf5⟩ := ifs_of hb5; have hs5 := hb5.size; (try simp at hs5); simp only [Calm]; go_wp2_with fail)
      refine (H2.out _ bl_).mono ?_
      (rintro e w6 ⟨rfl, hb6⟩; have hs6 := hb6.size; (try simp at hs6))
      obtain ⟨hc6, hf6⟩ := ifs_of hb6; have hs6 := hb6.size; (try simp at hs6)
      go_wp2_with fail
      go_ret
      exact ⟨rfl, bl_⟩
    | false =>
      obtain rfl : a3 = 0 := by simpa using h2
      rw [show or0 0 (or0 a4 (whenE (!sq) 22)) = or0 a4 (whenE (!sq) 22) from rfl]
      clear h2
      cases h3 : (a4 != 0) with
      | true =>
        have HZ : Hid (or0 a4 (whenE (!sq) 22) = a4) := by show _ = _; unfold or0; rw [if_neg (by simpa using h3)]
        rw [HZ.out]
        go_enter Tryz.func36, Tryz.ntmps36
        go_wp2_with fail
        (refine wp_region_calm [] [0, 1, 2, 3, 4, 5, 6, 7, 8] 3 (by kernel_rfl) rfl (by kernel_rfl) (by kernel_rfl) (by kernel_rfl) ?_; simp only [pickB, List.filterMap_cons, List.filterMap_nil, List.getElem?_toArray, List.getElem?_cons_zero, List.getElem?_cons_succ]; (repeat (first | ((with_reducible refine quietL_plain rfl (fun K hK => ?_)); (apply Exists.intro; refine ⟨fun wx hx => ?_, ?_⟩; (· (have hcx := ifs_ex hx); simp [go_sem, *, ↓IntWalk.iteOmega] <;> (first | rfl | exact ⟨rfl, rfl⟩ | (have hbx := Ex.below hx; first | (with_reducible exact calls_B (calls_below (HW0.out _))) | exact calls_B (H1.out _ bl_)))); (simp only [Act.put, List.setIfInBounds_toArray, List.set_cons_zero, List.set_cons_succ]; refine hK _ ?_; clear hK K))) | ((with_reducible refine quietL_skip (by with_unfolding_all rfl) ?_); simp only [Act.put, List.setIfInBounds_toArray, List.set_cons_zero, List.set_cons_succ]) | ((with_reducible refine quietL_want (by with_unfolding_all rfl) (fun K hK => ?_)); (apply Exists.intro; refine ⟨fun wx hx => ?_, ?_⟩; (· (have hcx := ifs_ex hx); simp [go_sem, *, ↓IntWalk.iteOmega] <;> (first | rfl | exact ⟨rfl, rfl⟩ | (have hbx := Ex.below hx; first | (with_reducible exact calls_B (calls_below (HW0.out _))) | exact calls_B (H1.out _ bl_)))); (simp only [Act.put, List.setIfInBounds_toArray, List.set_cons_zero, List.set_cons_succ]; refine hK _ ?_; clear hK K))))); refine quietL_nil ?_)
        (refine anyB_one (i := 9) (by kernel_rfl) rfl rfl ?_; intro w2 hb2 K hK; obtain ⟨hc2, hf2⟩ := ifs_of hb2; have hs2 := hb2.size; (try simp at hs2); go_wp2; refine ⟨xs_, ?_⟩)
        (refine anyB_one (i := 10) (by kernel_rfl) rfl rfl ?_; intro w3 hb3 K hK; obtain ⟨hc3, hf3⟩ := ifs_of hb3; have hs3 := hb3.size; (try simp at hs3); go_wp2_with fail; refine (pfirst_any (w2.heap.size + 1) _ 2 2 [a1, a2] _ ((by simpa using Reads.new (size := 1) w2 (([a1, a2]).map (.int .i64)).toArray 34 2 rfl : Reads (w2.alloc (.cells (([a1, a2]).map (.int .i64)).toArray 34)) (w2.heap.size + 1) 1 (some ⟨w2.heap.size, 0, none⟩) 2 (([a1, a2]).map (.int .i64))).below (hb3.mono (by simp))) (by unfold maxLen; decide)).mono ?_; rintro e w3' ⟨rfl, rfl⟩; go_wp2; refine ⟨xs_, ?_⟩)
        rw [HEE.out]
        (refine anyB_one (i := 11) (by kernel_rfl) rfl rfl ?_; intro w4 hb4 K hK; obtain ⟨hc4, hf4⟩ := ifs_of hb4; have hs4 := hb4.size; (try simp at hs4); go_wp2; refine ⟨xs_, ?_⟩)
        (refine anyB_end (by kernel_rfl) ?_; intro w5 hb5; obtain ⟨hc5, hf5⟩ := ifs_of hb5; have hs5 := hb5.size; (try simp at hs5); simp only [Calm]; go_wp2_with fail)
        refine (H2.out _ bl_).mono ?_
        (rintro e w6 ⟨rfl, hb6⟩; have hs6 := hb6.size; (try simp at hs6))
        obtain ⟨hc6, hf6⟩ := ifs_of hb6; have hs6 := hb6.size; (try simp at hs6)
        go_wp2_with fail
        refine (H3.out _ bl_ _ bk_).mono ?_
        (rintro e w7 ⟨rfl, hb7⟩; have hs7 := hb7.size; (try simp at hs7))
        obtain ⟨hc7, hf7⟩ := ifs_of hb7; have hs7 := hb7.size; (try simp at hs7)
        go_wp2_with fail
        go_ret
        exact ⟨rfl, bl_⟩
      | false =>
        obtain rfl : a4 = 0 := by simpa using h3
        rw [show or0 0 (whenE (!sq) 22) = whenE (!sq) 22 from rfl]
        have HPP := Lib.hid (hPP.out rfl rfl rfl)
        clear h3
        go_enter Tryz.func36, Tryz.ntmps36
        go_wp2_with fail
        (refine wp_region_calm [] [0, 1, 2, 3, 4, 5, 6, 7, 8] 3 (by kernel_rfl) rfl (by kernel_rfl) (by kernel_rfl) (by kernel_rfl) ?_; simp only [pickB, List.filterMap_cons, List.filterMap_nil, List.getElem?_toArray, List.getElem?_cons_zero, List.getElem?_cons_succ]; (repeat (first | ((with_reducible refine quietL_plain rfl (fun K hK => ?_)); (apply Exists.intro; refine ⟨fun wx hx => ?_, ?_⟩; (· (have hcx := ifs_ex hx); simp [go_sem, *, ↓IntWalk.iteOmega] <;> (first | rfl | exact ⟨rfl, rfl⟩ | (have hbx := Ex.below hx; first | (with_reducible exact calls_B (calls_below (HW0.out _))) | exact calls_B (H1.out _ bl_)))); (simp only [Act.put, List.setIfInBounds_toArray, List.set_cons_zero, List.set_cons_succ]; refine hK _ ?_; clear hK K))) | ((with_reducible refine quietL_skip (by with_unfolding_all rfl) ?_); simp only [Act.put, List.setIfInBounds_toArray, List.set_cons_zero, List.set_cons_succ]) | ((with_reducible refine quietL_want (by with_unfolding_all rfl) (fun K hK => ?_)); (apply Exists.intro; refine ⟨fun wx hx => ?_, ?_⟩; (· (have hcx := ifs_ex hx); simp [go_sem, *, ↓IntWalk.iteOmega] <;> (first | rfl | exact ⟨rfl, rfl⟩ | (have hbx := Ex.below hx; first | (with_reducible exact calls_B (calls_below (HW0.out _))) | exact calls_B (H1.out _ bl_)))); (simp only [Act.put, List.setIfInBounds_toArray, List.set_cons_zero, List.set_cons_succ]; refine hK _ ?_; clear hK K))))); refine quietL_nil ?_)
        (refine anyB_one (i := 9) (by kernel_rfl) rfl rfl ?_; intro w2 hb2 K hK; obtain ⟨hc2, hf2⟩ := ifs_of hb2; have hs2 := hb2.size; (try simp at hs2); go_wp2; refine ⟨xs_, ?_⟩)
        (refine anyB_one (i := 10) (by kernel_rfl) rfl rfl ?_; intro w3 hb3 K hK; obtain ⟨hc3, hf3⟩ := ifs_of hb3; have hs3 := hb3.size; (try simp at hs3); go_wp2_with fail; refine (pfirst_any (w2.heap.size + 1) _ 2 2 [a1, a2] _ ((by simpa using Reads.new (size := 1) w2 (([a1, a2]).map (.int .i64)).toArray 34 2 rfl : Reads (w2.alloc (.cells (([a1, a2]).map (.int .i64)).toArray 34)) (w2.heap.size + 1) 1 (some ⟨w2.heap.size, 0, none⟩) 2 (([a1, a2]).map (.int .i64))).below (hb3.mono (by simp))) (by unfold maxLen; decide)).mono ?_; rintro e w3' ⟨rfl, rfl⟩; go_wp2; refine ⟨xs_, ?_⟩)
        rw [HEE.out]
        (refine anyB_one (i := 11) (by kernel_rfl) rfl rfl ?_; intro w4 hb4 K hK; obtain ⟨hc4, hf4⟩ := ifs_of hb4; have hs4 := hb4.size; (try simp at hs4); go_wp2; refine ⟨xs_, ?_⟩)
        (refine anyB_end (by kernel_rfl) ?_; intro w5 hb5; obtain ⟨hc5, hf5⟩ := ifs_of hb5; have hs5 := hb5.size; (try simp at hs5); simp only [Calm]; go_wp2_with fail)
        refine (H2.out _ bl_).mono ?_
        (rintro e w6 ⟨rfl, hb6⟩; have hs6 := hb6.size; (try simp at hs6))
        obtain ⟨hc6, hf6⟩ := ifs_of hb6; have hs6 := hb6.size; (try simp at hs6)
        go_wp2_with fail
        refine (H3.out _ bl_ _ bk_).mono ?_
        (rintro e w7 ⟨rfl, hb7⟩; have hs7 := hb7.size; (try simp at hs7))
        obtain ⟨hc7, hf7⟩ := ifs_of hb7; have hs7 := hb7.size; (try simp at hs7)
        go_wp2_with fail
        refine (H4.out _ bl_ HPP.out).mono ?_
        (rintro e w8 ⟨rfl, hb8⟩; have hs8 := hb8.size; (try simp at hs8))
        go_wp2_with fail
        refine (HW4.out _).mono ?_
        rintro e w9 ⟨rfl, rfl⟩
        go_wp2_with fail
        go_ret
        exact ⟨rfl, bl_⟩
theorem CheckYard_any (B : Nat) (A0 A1 A2 : Option Addr) (n0 n1 n2 c0 c1 c2 : Nat) (y : Yd) (w : World) (hY : YdAt w B A0 A1 A2 n0 n1 n2 y) (hB : B ≤ w.heap.size) (hT : Tabs w) (hF : Fits y) :
    Calls Tryz.prog 36 #[.agg #[.slice A0 n0 c0, .slice A1 n1 c1, .slice A2 n2 c2]] w fun e w' => e = .returned (.int .i64 (yardE y)) ∧ Below w.heap.size w w' := CheckYardL_any B A0 A1 A2 n0 n1 n2 c0 c1 c2 y w hY hB hT hF.long
end Go.Proofs.YtphlojgmfkgeiaaGreatDoor
/- Sections that are something; the state. -/
namespace Go.Proofs.YtphlojgmfkgeiaaGreatDoor
open Go.RowKit Go.Sort Go.Shelf
set_option linter.unusedSimpArgs false
set_option linter.unusedVariables false
attribute [local go_sem] cell_if frozen_if grow_cell
theorem yard_ok {y : Yd} (h : yardE y = 0) : Parts y ∧ soundB y = true := by
  unfold yardE at h
  obtain ⟨h1, h2⟩ := or0_zero h
  have := whenE_zero (by decide) h2
  exact ⟨parts_of h1, by simpa using this⟩
def resI (e : Int) (zs : List Int) : List Int := if e = 0 then zs else []
def IntsERes (w : World) (zs : List Int) (er : Int) (e : Ending) (w' : World) : Prop := ∃ A cap, e = .returned (.tuple #[.slice A zs.length cap, .int .i64 er]) ∧ Reads w' w'.heap.size 1 A zs.length (zs.map (.int .i64)) ∧ Below w.heap.size w w'
theorem sections_any (g : Nat) (bs cap : Array Value) (B : Nat) (A0 A1 A2 : Option Addr) (n0 n1 n2 c0 c1 c2 : Nat) (y : Yd) (w : World) (hY : YdAt w B A0 A1 A2 n0 n1 n2 y) (hB : B ≤ w.heap.size) (hT : Tabs w) (hF : Fits y) (p : Int → Bool) (eg : Enters Tryz.prog g) (hp : Parts y → Pred Tryz.prog g bs cap (fun x => Value.int .i64 x) (rng y.s.length) p w) :
    Calls Tryz.prog 95 #[.agg #[.slice A0 n0 c0, .slice A1 n1 c1, .slice A2 n2 c2], .func (.func g) bs cap] w (IntsERes w (resI (yardE y) (those y.s.length p)) (yardE y)) := by
  have hl1 := (sec_at hY.hs).1
  have HC := Lib.hid (fun W (hW : Below w.heap.size w W) => CheckYard_any B A0 A1 A2 n0 n1 n2 c0 c1 c2 y W (hY.below (hW.mono hB)) (by have := hW.size; omega) (hT.kept hW) hF)
  have h9 := hF.s9
  cases he : (yardE y != 0) with
  | true =>
    have HE := Lib.hid (show yardE y ≠ 0 by simpa using he)
    have HR : Hid (resI (yardE y) (those y.s.length p) = []) := by show _ = _; rw [resI, if_neg HE.out]
    rw [HR.out]
    clear hp hY hT hF
    generalize yardE y = ee at *
    go_enter Tryz.func95, Tryz.ntmps95
    go_wp2_with fail
    refine (HC.out _ bl_).mono ?_
    (rintro e w1 ⟨rfl, hb1⟩; have hs1 := hb1.size; (try simp at hs1))
    go_wp2_with fail
    go_ret2
    exact ⟨none, 0, rfl, Reads.nil_, bl_⟩
  | false =>
    have HE := Lib.hid (show yardE y = 0 by simpa using he)
    have HR : Hid (resI (yardE y) (those y.s.length p) = those y.s.length p) := by show _ = _; rw [resI, if_pos HE.out]
    rw [HR.out, HE.out]
    rw [HE.out] at HC
    have HP := Lib.hid (hp (yard_ok HE.out).1)
    rw [hl1] at HP h9 ⊢
    have HT := Lib.hid (fun W (hW : Below w.heap.size w W) => those_any g bs cap B A0 A1 A2 n0 n1 n2 c0 c1 c2 y W p h9 eg (fun W' hW' x hx => HP.out W' (hW.trans (hW'.mono hW.size)) x hx))
    clear hp hY hT hF he HE HR
    generalize those n0 p = zs at *
    go_enter Tryz.func95, Tryz.ntmps95
    go_wp2_with fail
    refine (HC.out _ bl_).mono ?_
    (rintro e w1 ⟨rfl, hb1⟩; have hs1 := hb1.size; (try simp at hs1))
    obtain ⟨hc1, hf1⟩ := ifs_of hb1; have hs1 := hb1.size; (try simp at hs1)
    go_wp2_with fail
    refine (HT.out _ bl_).mono ?_
    (rintro e w2 ⟨A2, cap2, rfl, hr2, hb2⟩; have hs2 := hb2.size; have HR2 := Lib.hid hr2; clear hr2; (try simp at hs2))
    go_wp2_with fail
    go_ret2
    exact ⟨_, cap2, rfl, HR2.out, bl_⟩
theorem Energized_any (B : Nat) (A0 A1 A2 : Option Addr) (n0 n1 n2 c0 c1 c2 : Nat) (y : Yd) (w : World) (hY : YdAt w B A0 A1 A2 n0 n1 n2 y) (hB : B ≤ w.heap.size) (hT : Tabs w) (hF : Fits y) :
    Calls Tryz.prog 28 #[.agg #[.slice A0 n0 c0, .slice A1 n1 c1, .slice A2 n2 c2]] w (IntsERes w (resI (yardE y) (those y.s.length (energB y))) (yardE y)) := by
  have HC := Lib.hid (fun W (hW : Below w.heap.size w W) => sections_any 96 #[.agg #[.slice A0 n0 c0, .slice A1 n1 c1, .slice A2 n2 c2]] #[] B A0 A1 A2 n0 n1 n2 c0 c1 c2 y W (hY.below (hW.mono hB)) (by have := hW.size; omega) (hT.kept hW) hF (energB y) (enters_of Tryz.func96 (by kernel_rfl) rfl) (fun hP W' hW' i hi => by simpa using energized_any B A0 A1 A2 n0 n1 n2 c0 c1 c2 y W' (hY.below ((hW.mono hB).trans (hW'.mono (by have := hW.size; omega)))) (by have := hW.size; have := hW'.size; omega) hP i hi))
  clear hY hT hF
  go_enter Tryz.func28, Tryz.ntmps28
  go_wp2_with fail
  refine (HC.out _ bl_).mono ?_
  rintro e w1 ⟨A', cap', rfl, hr', hb'⟩
  have HR := Lib.hid hr'
  clear hr'
  go_wp2_with fail
  go_ret2
  exact ⟨A', cap', by first | rfl | (simp; done), HR.out, bl_⟩
theorem Earthed_any (B : Nat) (A0 A1 A2 : Option Addr) (n0 n1 n2 c0 c1 c2 : Nat) (y : Yd) (w : World) (hY : YdAt w B A0 A1 A2 n0 n1 n2 y) (hB : B ≤ w.heap.size) (hT : Tabs w) (hF : Fits y) :
    Calls Tryz.prog 29 #[.agg #[.slice A0 n0 c0, .slice A1 n1 c1, .slice A2 n2 c2]] w (IntsERes w (resI (yardE y) (those y.s.length (earthedB y))) (yardE y)) := by
  have HC := Lib.hid (fun W (hW : Below w.heap.size w W) => sections_any 97 #[.agg #[.slice A0 n0 c0, .slice A1 n1 c1, .slice A2 n2 c2]] #[] B A0 A1 A2 n0 n1 n2 c0 c1 c2 y W (hY.below (hW.mono hB)) (by have := hW.size; omega) (hT.kept hW) hF (earthedB y) (enters_of Tryz.func97 (by kernel_rfl) rfl) (fun hP W' hW' i hi => by simpa using earthed_any B A0 A1 A2 n0 n1 n2 c0 c1 c2 y W' (hY.below ((hW.mono hB).trans (hW'.mono (by have := hW.size; omega)))) (by have := hW.size; have := hW'.size; omega) hP i hi))
  clear hY hT hF
  go_enter Tryz.func29, Tryz.ntmps29
  go_wp2_with fail
  refine (HC.out _ bl_).mono ?_
  rintro e w1 ⟨A', cap', rfl, hr', hb'⟩
  have HR := Lib.hid hr'
  clear hr'
  go_wp2_with fail
  go_ret2
  exact ⟨A', cap', by first | rfl | (simp; done), HR.out, bl_⟩
theorem Separated_any (B : Nat) (A0 A1 A2 : Option Addr) (n0 n1 n2 c0 c1 c2 : Nat) (y : Yd) (w : World) (hY : YdAt w B A0 A1 A2 n0 n1 n2 y) (hB : B ≤ w.heap.size) (hT : Tabs w) (hF : Fits y) :
    Calls Tryz.prog 30 #[.agg #[.slice A0 n0 c0, .slice A1 n1 c1, .slice A2 n2 c2]] w (IntsERes w (resI (yardE y) (those y.s.length (sepB y))) (yardE y)) := by
  have HC := Lib.hid (fun W (hW : Below w.heap.size w W) => sections_any 98 #[.agg #[.slice A0 n0 c0, .slice A1 n1 c1, .slice A2 n2 c2]] #[] B A0 A1 A2 n0 n1 n2 c0 c1 c2 y W (hY.below (hW.mono hB)) (by have := hW.size; omega) (hT.kept hW) hF (sepB y) (enters_of Tryz.func98 (by kernel_rfl) rfl) (fun hP W' hW' i hi => by simpa using separated_any B A0 A1 A2 n0 n1 n2 c0 c1 c2 y W' (hY.below ((hW.mono hB).trans (hW'.mono (by have := hW.size; omega)))) (by have := hW.size; have := hW'.size; omega) hP i hi))
  clear hY hT hF
  go_enter Tryz.func30, Tryz.ntmps30
  go_wp2_with fail
  refine (HC.out _ bl_).mono ?_
  rintro e w1 ⟨A', cap', rfl, hr', hb'⟩
  have HR := Lib.hid hr'
  clear hr'
  go_wp2_with fail
  go_ret2
  exact ⟨A', cap', by first | rfl | (simp; done), HR.out, bl_⟩
theorem Secured_any (B : Nat) (A0 A1 A2 : Option Addr) (n0 n1 n2 c0 c1 c2 : Nat) (y : Yd) (w : World) (hY : YdAt w B A0 A1 A2 n0 n1 n2 y) (hB : B ≤ w.heap.size) (hT : Tabs w) (hF : Fits y) :
    Calls Tryz.prog 31 #[.agg #[.slice A0 n0 c0, .slice A1 n1 c1, .slice A2 n2 c2]] w (IntsERes w (resI (yardE y) (those y.s.length (secB y))) (yardE y)) := by
  have HC := Lib.hid (fun W (hW : Below w.heap.size w W) => sections_any 99 #[.agg #[.slice A0 n0 c0, .slice A1 n1 c1, .slice A2 n2 c2]] #[] B A0 A1 A2 n0 n1 n2 c0 c1 c2 y W (hY.below (hW.mono hB)) (by have := hW.size; omega) (hT.kept hW) hF (secB y) (enters_of Tryz.func99 (by kernel_rfl) rfl) (fun hP W' hW' i hi => by simpa using secured_any B A0 A1 A2 n0 n1 n2 c0 c1 c2 y W' (hY.below ((hW.mono hB).trans (hW'.mono (by have := hW.size; omega)))) (by have := hW.size; have := hW'.size; omega) hP i hi))
  clear hY hT hF
  go_enter Tryz.func31, Tryz.ntmps31
  go_wp2_with fail
  refine (HC.out _ bl_).mono ?_
  rintro e w1 ⟨A', cap', rfl, hr', hb'⟩
  have HR := Lib.hid hr'
  clear hr'
  go_wp2_with fail
  go_ret2
  exact ⟨A', cap', by first | rfl | (simp; done), HR.out, bl_⟩
/-- The error of a state. -/
def stE (n : Nat) (s : Int) : Int := whenE (!decide (0 ≤ s ∧ s < 2 ^ n)) 3
theorem checkState_any (A0 A1 A2 : Option Addr) (n0 n1 n2 c0 c1 c2 : Nat) (s : Int) (w : World) (hn : n1 ≤ 9) :
    Calls Tryz.prog 119 #[.agg #[.slice A0 n0 c0, .slice A1 n1 c1, .slice A2 n2 c2], .int .i64 s] w fun e w' => e = .returned (.int .i64 (stE n1 s)) ∧ Below w.heap.size w w' := by
  have hp := pow9 hn
  have HW := Lib.hid (fun W => pwhen_any (!decide (0 ≤ s ∧ s < 2 ^ n1)) 3 W)
  unfold stE
  generalize whenE (!decide (0 ≤ s ∧ s < 2 ^ n1)) 3 = v at *
  by_cases h0 : s < 0
  · have e : (!decide (0 ≤ s ∧ s < 2 ^ n1)) = true := by simp; omega
    rw [e] at HW
    clear e
    go_enter Tryz.func119, Tryz.ntmps119
    go_wp2_with fail
    refine (HW.out _).mono ?_
    rintro e w1 ⟨rfl, rfl⟩
    go_wp2_with fail
    go_ret
    exact ⟨rfl, bl_⟩
  · by_cases h1 : (2 : Int) ^ n1 ≤ s
    · have e : (!decide (0 ≤ s ∧ s < 2 ^ n1)) = true := by simp; omega
      rw [e] at HW
      clear e
      obtain ⟨hp1, hp2⟩ := hp
      go_enter Tryz.func119, Tryz.ntmps119
      go_wp2_with fail
      refine (HW.out _).mono ?_
      rintro e w1 ⟨rfl, rfl⟩
      go_wp2_with fail
      go_ret
      exact ⟨rfl, bl_⟩
    · have e : (!decide (0 ≤ s ∧ s < 2 ^ n1)) = false := by simp; omega
      rw [e] at HW
      clear e
      obtain ⟨hp1, hp2⟩ := hp
      go_enter Tryz.func119, Tryz.ntmps119
      go_wp2_with fail
      refine (HW.out _).mono ?_
      rintro e w1 ⟨rfl, rfl⟩
      go_wp2_with fail
      go_ret
      exact ⟨rfl, bl_⟩
theorem State_any (B : Nat) (A0 A1 A2 : Option Addr) (n0 n1 n2 c0 c1 c2 : Nat) (y : Yd) (w : World) (hY : YdAt w B A0 A1 A2 n0 n1 n2 y) (hB : B ≤ w.heap.size) (hT : Tabs w) (hF : Fits y) :
    Calls Tryz.prog 42 #[.agg #[.slice A0 n0 c0, .slice A1 n1 c1, .slice A2 n2 c2]] w fun e w' => e = .returned (.tuple #[.int .i64 (if yardE y = 0 then stUp y.w n1 else 0), .int .i64 (yardE y)]) ∧ Below w.heap.size w w' := by
  have hl1 := Lib.hid (sw_at hY.hw).1
  have HC := Lib.hid (fun W (hW : Below w.heap.size w W) => CheckYard_any B A0 A1 A2 n0 n1 n2 c0 c1 c2 y W (hY.below (hW.mono hB)) (by have := hW.size; omega) (hT.kept hW) hF)
  have HS := Lib.hid (fun W (hW : Below w.heap.size w W) => pstate_any B A0 A1 A2 n0 n1 n2 c0 c1 c2 y W (hY.below (hW.mono hB)) (by have := hW.size; omega) (by have := hF.w9; have := hl1.out; omega))
  clear hY hT hF
  cases he : (yardE y != 0) with
  | true =>
    have HE := Lib.hid (show yardE y ≠ 0 by simpa using he)
    rw [if_neg HE.out]
    generalize yardE y = ee at *
    go_enter Tryz.func42, Tryz.ntmps42
    go_wp2_with fail
    refine (HC.out _ bl_).mono ?_
    (rintro e w1 ⟨rfl, hb1⟩; have hs1 := hb1.size; (try simp at hs1))
    go_wp2_with fail
    go_ret2
    exact ⟨rfl, bl_⟩
  | false =>
    have HE := Lib.hid (show yardE y = 0 by simpa using he)
    rw [if_pos HE.out, HE.out]
    rw [HE.out] at HC
    clear he HE
    go_enter Tryz.func42, Tryz.ntmps42
    go_wp2_with fail
    refine (HC.out _ bl_).mono ?_
    (rintro e w1 ⟨rfl, hb1⟩; have hs1 := hb1.size; (try simp at hs1))
    obtain ⟨hc1, hf1⟩ := ifs_of hb1; have hs1 := hb1.size; (try simp at hs1)
    go_wp2_with fail
    refine (HS.out _ bl_).mono ?_
    (rintro e w2 ⟨rfl, hb2⟩; have hs2 := hb2.size; (try simp at hs2))
    go_wp2_with fail
    go_ret2
    exact ⟨rfl, bl_⟩
end Go.Proofs.YtphlojgmfkgeiaaGreatDoor
/- Yards with lists of their own. -/
namespace Go.Proofs.YtphlojgmfkgeiaaGreatDoor
open Go.RowKit Go.Sort Go.Shelf
set_option linter.unusedSimpArgs false
set_option linter.unusedVariables false
attribute [local go_sem] cell_if frozen_if grow_cell
def CloneRes (w : World) (t n : Nat) (xs : List Value) (e : Ending) (w' : World) : Prop := ∃ v, e = .returned v ∧ w'.ownsRow w.heap.size t 2 v n xs ∧ Below w.heap.size w w'
theorem elemSec : Elem Tryz.prog 37 133 2 24 := elem_of Tryz.underlying37 (z := .agg #[.string ⟨#[]⟩, .bool false]) (by kernel_rfl) rfl (by decide)
theorem elemPm : Elem Tryz.prog 39 117 2 24 := elem_of Tryz.underlying39 (z := .agg #[.string ⟨#[]⟩, .int .i64 0]) (by kernel_rfl) rfl (by decide)
theorem elemSw : Elem Tryz.prog 38 70 5 56 := elem_of Tryz.underlying38 (z := .agg #[.string ⟨#[]⟩, .string ⟨#[]⟩, .int .i64 0, .int .i64 0, .bool false]) (by kernel_rfl) rfl (by decide)
set_option maxRecDepth 100000 in
theorem CloneSec_any (B : Nat) (A : Option Addr) (n c : Nat) (xs : List Value) (w : World) (hr : Reads w B 2 A n xs) (hB : B ≤ w.heap.size) (h1 : ∀ u ∈ xs, u.oneCell' = true) (hn : n ≤ 1000) :
    Calls Tryz.prog 173 #[.slice A n c] w (CloneRes w 133 n xs) := by
  have q22 : ∀ (w : World) (a : Option Addr) (n c n' c' : Nat), (binOp .eql 37 (.slice a n c) (.slice none n' c')).run Tryz.prog w = .ok (.bool a.isNone) w := fun w a n c n' c' => Lib.run_eql_slice_nil w _ _ a n c n' c' Tryz.underlying37
  cases A with
  | none =>
    obtain rfl : n = 0 := by
      rcases Nat.eq_zero_or_pos n with h | h
      · exact h
      · obtain ⟨b, o, e, _⟩ := hr.2 h
        cases e
    obtain rfl : xs = [] := List.eq_nil_of_length_eq_zero (by rw [hr.1])
    clear hr h1
    go_enter Tryz.func173, Tryz.ntmps173
    go_wp2
    go_ret
    exact ⟨_, rfl, World.ownsRow_nil _ _ _ _, bl_⟩
  | some ad =>
    have hl := hr.1
    have hnews : Hid (∀ j u, xs[j]? = some u → (w.alloc (.cells #[] 133)).cell? (ad.add j) = some u) := fun j u hu => by
      have hj := (List.getElem?_eq_some_iff.1 hu).1
      obtain ⟨b, o, e, hb, hc⟩ := (hr.alloc hB (.cells #[] 133)).2 (by omega)
      cases e
      rw [Addr.add_lit]
      exact hc j u hu
    have H1 := Lib.hid h1
    have HL := Lib.hid hl
    clear hr h1 hl
    obtain ⟨ht, ⟨i, z, g1, g2, g3, g4, g5⟩, hp⟩ := elemSec
    have G1 := Lib.hid g1
    have G2 := Lib.hid g2
    have G3 := Lib.hid g3
    have G4 := Lib.hid g4
    have G5 := Lib.hid g5
    clear g1 g2 g3 g4 g5
    go_enter Tryz.func173, Tryz.ntmps173
    go_wp2_with (at_builtin; refine wpList_append_own (w.alloc (.cells #[] 133)) rfl (.tmp 5) (.tmp 6) 37 rfl w.heap.size 133 i z 2 24 ht G1.out G2.out G3.out G4.out G5.out hp _ 0 [] rfl (Own.new w w.heap.size 133 2 0 #[] (Nat.le_refl _) rfl (by decide)) ad n c xs rfl HL.out hnews.out H1.out (by unfold maxLen; omega) (by omega) (by simp) ?_)
    intro v' w' hO hg hnil
    have HO := Lib.hid hO
    have hb : Below w.heap.size w w' := ((Below.refl _ w).alloc (Nat.le_refl _) _).grown hg (by simp) (fun k hk => by simp [Value.ownBlock] at hk; omega)
    clear hO hg hnil
    obtain ⟨A', cap', rfl, _⟩ := own_form HO.out
    go_wp2
    go_ret
    exact ⟨_, rfl, HO.out, hb⟩
set_option maxRecDepth 100000 in
theorem ClonePm_any (B : Nat) (A : Option Addr) (n c : Nat) (xs : List Value) (w : World) (hr : Reads w B 2 A n xs) (hB : B ≤ w.heap.size) (h1 : ∀ u ∈ xs, u.oneCell' = true) (hn : n ≤ 1000) :
    Calls Tryz.prog 174 #[.slice A n c] w (CloneRes w 117 n xs) := by
  have q22 : ∀ (w : World) (a : Option Addr) (n c n' c' : Nat), (binOp .eql 39 (.slice a n c) (.slice none n' c')).run Tryz.prog w = .ok (.bool a.isNone) w := fun w a n c n' c' => Lib.run_eql_slice_nil w _ _ a n c n' c' Tryz.underlying39
  cases A with
  | none =>
    obtain rfl : n = 0 := by
      rcases Nat.eq_zero_or_pos n with h | h
      · exact h
      · obtain ⟨b, o, e, _⟩ := hr.2 h
        cases e
    obtain rfl : xs = [] := List.eq_nil_of_length_eq_zero (by rw [hr.1])
    clear hr h1
    go_enter Tryz.func174, Tryz.ntmps174
    go_wp2
    go_ret
    exact ⟨_, rfl, World.ownsRow_nil _ _ _ _, bl_⟩
  | some ad =>
    have hl := hr.1
    have hnews : Hid (∀ j u, xs[j]? = some u → (w.alloc (.cells #[] 117)).cell? (ad.add j) = some u) := fun j u hu => by
      have hj := (List.getElem?_eq_some_iff.1 hu).1
      obtain ⟨b, o, e, hb, hc⟩ := (hr.alloc hB (.cells #[] 117)).2 (by omega)
      cases e
      rw [Addr.add_lit]
      exact hc j u hu
    have H1 := Lib.hid h1
    have HL := Lib.hid hl
    clear hr h1 hl
    obtain ⟨ht, ⟨i, z, g1, g2, g3, g4, g5⟩, hp⟩ := elemPm
    have G1 := Lib.hid g1
    have G2 := Lib.hid g2
    have G3 := Lib.hid g3
    have G4 := Lib.hid g4
    have G5 := Lib.hid g5
    clear g1 g2 g3 g4 g5
    go_enter Tryz.func174, Tryz.ntmps174
    go_wp2_with (at_builtin; refine wpList_append_own (w.alloc (.cells #[] 117)) rfl (.tmp 5) (.tmp 6) 39 rfl w.heap.size 117 i z 2 24 ht G1.out G2.out G3.out G4.out G5.out hp _ 0 [] rfl (Own.new w w.heap.size 117 2 0 #[] (Nat.le_refl _) rfl (by decide)) ad n c xs rfl HL.out hnews.out H1.out (by unfold maxLen; omega) (by omega) (by simp) ?_)
    intro v' w' hO hg hnil
    have HO := Lib.hid hO
    have hb : Below w.heap.size w w' := ((Below.refl _ w).alloc (Nat.le_refl _) _).grown hg (by simp) (fun k hk => by simp [Value.ownBlock] at hk; omega)
    clear hO hg hnil
    obtain ⟨A', cap', rfl, _⟩ := own_form HO.out
    go_wp2
    go_ret
    exact ⟨_, rfl, HO.out, hb⟩
theorem run_copy_all {P : Program} (w : World) (dT sT ty elem : TypeId) (sz g n c c2 : Nat) (A : Option Addr) (cur : Array Value) (t : TypeId) (xs : List Value)
    (hu : P.underlying dT = some (.slice elem)) (hs : (P.info? elem).map (·.size) = some sz) (hg : Blk w g t cur) (hr : ∃ B, Reads w B sz A n xs) (hcur : cur.size = n * sz) (h1 : ∀ v ∈ xs, v.oneCell' = true) :
    ∃ w', (Builtin.copy_ #[dT, sT] ty #[.slice (some ⟨g, 0, none⟩) n c2, .slice A n c]).run P w = .ok (goInt n) w' ∧ Blk w' g t xs.toArray ∧ (∀ k, k ≠ g → w'.heap[k]? = w.heap[k]?) ∧ w'.heap.size = w.heap.size ∧ w'.os = w.os ∧ w'.tape = w.tape ∧ w'.output = w.output := by
  obtain ⟨B, hr⟩ := hr
  obtain ⟨i, hq, rfl⟩ := Option.map_eq_some_iff.1 hs
  have hl := hr.1
  have hst := run_storeCells_at P g 0 t xs 0 cur w hg (by omega) h1
  have hfull : cur.toList.take 0 ++ xs ++ cur.toList.drop (0 + xs.length) = xs := by
    rw [List.take_zero, List.nil_append, List.drop_eq_nil_of_le (by simp; omega), List.append_nil]
  cases A with
  | none =>
    obtain rfl : n = 0 := by
      rcases Nat.eq_zero_or_pos n with h | h
      · exact h
      · obtain ⟨b, o, e, _⟩ := hr.2 h
        cases e
    obtain rfl : xs = [] := List.eq_nil_of_length_eq_zero (by rw [hl]; simp)
    refine ⟨w, ?_, ?_, fun _ _ => rfl, rfl, rfl, rfl, rfl⟩
    · simp [Builtin.copy_, run_underlying hu, Builtin.lenOf, Builtin.firstCells, sizeOf, typeInfo, hq, storeCells]
    · have : cur = #[] := by apply Array.eq_empty_of_size_eq_zero; simpa using hcur
      rw [← this]; exact hg
  | some a =>
    have hsrc : ∀ j v, xs[j]? = some v → w.cell? (a.add j) = some v := fun j v hv => by
      have hj := (List.getElem?_eq_some_iff.1 hv).1
      have hn0 : 0 < n := by
        rcases Nat.eq_zero_or_pos n with h | h
        · subst h; simp at hl; subst hl; simp at hj
        · exact h
      obtain ⟨b, o, e, _, hc⟩ := hr.2 hn0
      cases e
      rw [Addr.add_lit]
      exact hc j v hv
    have hld := run_loadCells_list (P := P) w a xs hsrc
    rw [hl] at hld
    refine ⟨w.setRow g xs.toArray, ?_, setRow_heap w g _ _ t _ hg, fun k hk => setRow_other w g k _ hk, by simp [World.setRow], rfl, rfl, rfl⟩
    rw [hfull] at hst
    simp [Builtin.copy_, run_underlying hu, Builtin.lenOf, Builtin.firstCells, sizeOf, typeInfo, hq, hld, hst]
theorem wpList_copy_all {P : Program} {w : World} {ops : Array Oper} {rest : List Oper} {o : Oper} {a : Act} {Q : Exit → Act → World → Prop} (hgd : o.guard = none) (d s : Operand) (dT sT elem : TypeId)
    (ho : o.op = .call { callee := .builtin .copy, args := #[d, s], argTypes := #[dT, sT] }) (sz g n c c2 : Nat) (A : Option Addr) (cur : Array Value) (t : TypeId) (xs : List Value) (hd : a.eval d = .slice (some ⟨g, 0, none⟩) n c2) (hv : a.eval s = .slice A n c)
    (hu : P.underlying dT = some (.slice elem)) (hs : (P.info? elem).map (·.size) = some sz) (hg : Blk w g t cur) (hr : ∃ B, Reads w B sz A n xs) (hcur : cur.size = n * sz) (h1 : ∀ v ∈ xs, v.oneCell' = true)
    (h : ∀ w', Blk w' g t xs.toArray → (∀ k, k ≠ g → w'.heap[k]? = w.heap[k]?) → w'.heap.size = w.heap.size → Below g w w' → wpList P ops Q rest (a.put o.dst (goInt n)) w') : wpList P ops Q (o :: rest) a w := by
  refine wpList_plain hgd fun K hK => ?_
  obtain ⟨w', hrun, g1, g2, g3, g4, g5, g6⟩ := run_copy_all (P := P) w dT sT o.type elem sz g n c c2 A cur t xs hu hs hg hr hcur h1
  unfold Oper.wp
  simp [execOp, ho, resolve, invoke, builtin, hd, hv, hrun, Result.andThen]
  exact hK _ _ (h w' g1 g2 g3 ⟨g4, g5, g6, Nat.le_of_eq g3.symm, fun k hk => g2 k (by omega)⟩)
/-- A yard with lists of its own: the rows of its sections and permits, the block of its switches. -/
def OwnYd (base : Nat) (y : Yd) (v0 v2 : Value) (g : Nat) (w : World) : Prop := w.ownsRow base 133 2 v0 y.s.length (secs y.s) ∧ Blk w g 70 (sws y.w).toArray ∧ base ≤ g ∧ w.ownsRow base 117 2 v2 y.p.length (pms y.p)
def OwnRes (w : World) (y : Yd) (e : Ending) (w' : World) : Prop := ∃ A0 A2 c0 c2 g, e = .returned (.agg #[.slice A0 y.s.length c0, .slice (some ⟨g, 0, none⟩) y.w.length y.w.length, .slice A2 y.p.length c2]) ∧ OwnYd w.heap.size y (.slice A0 y.s.length c0) (.slice A2 y.p.length c2) g w' ∧ Below w.heap.size w w'
theorem row_base {w : World} {base base' size n : Nat} {e : TypeId} {v : Value} {xs : List Value} (h : w.ownsRow base e size v n xs) (hb : base' ≤ base) : w.ownsRow base' e size v n xs := by
  obtain ⟨h1, h2⟩ := h
  refine ⟨h1, ?_⟩
  rcases h2 with h2 | ⟨g, cap, cur, hv, hg, r⟩
  · exact Or.inl h2
  · exact Or.inr ⟨g, cap, cur, hv, by omega, r⟩
/-- A row is kept where no block of its type turns. -/
theorem row_kept {w w' : World} {base size n : Nat} {e : TypeId} {v : Value} {xs : List Value} (h : w.ownsRow base e size v n xs) (hb : ∀ k c, Blk w k e c → w'.heap[k]? = w.heap[k]?) : w'.ownsRow base e size v n xs := by
  obtain ⟨h1, h2⟩ := h
  refine ⟨h1, ?_⟩
  rcases h2 with h2 | ⟨g, cap, cur, hv, hg, hh, r⟩
  · exact Or.inl h2
  · exact Or.inr ⟨g, cap, cur, hv, hg, (hb g cur hh).trans hh, r⟩
theorem blk_ne {w : World} {k k' : Nat} {t t' : TypeId} {c c' : Array Value} (h : Blk w k t c) (h' : Blk w k' t' c') (ht : t ≠ t') : k ≠ k' := by
  rintro rfl
  unfold Blk at h h'
  rw [h] at h'
  cases h'
  exact ht rfl
theorem row_set {w : World} {base size n k i : Nat} {e t : TypeId} {v u : Value} {xs : List Value} {c : Array Value} (h : w.ownsRow base e size v n xs) (hk : Blk w k t c) (ht : e ≠ t) : (w.setCell ⟨k, i, none⟩ u).ownsRow base e size v n xs :=
  row_kept h fun j d hj => Below.heap_setCell w _ u j (blk_ne hj hk ht)
theorem one_flat {α : Type} {f : α → List Value} (hf : ∀ x, ∀ v ∈ f x, v.oneCell' = true) (l : List α) : ∀ v ∈ l.flatMap f, v.oneCell' = true := by
  intro v hv
  obtain ⟨x, _, hx⟩ := List.mem_flatMap.1 hv
  exact hf x v hx
theorem secs_one (l : List Sec) : ∀ v ∈ secs l, v.oneCell' = true := one_flat (fun x v hv => by simp [Sec.cells] at hv; rcases hv with rfl | rfl <;> rfl) l
theorem sws_one (l : List Sw) : ∀ v ∈ sws l, v.oneCell' = true := one_flat (fun x v hv => by simp [Sw.cells] at hv; rcases hv with rfl | rfl | rfl | rfl | rfl <;> rfl) l
theorem pms_one (l : List Pm) : ∀ v ∈ pms l, v.oneCell' = true := one_flat (fun x v hv => by simp [Pm.cells] at hv; rcases hv with rfl | rfl <;> rfl) l
theorem sws_len (l : List Sw) : (sws l).length = l.length * 5 := flat_len (f := Sw.cells) (fun _ => rfl) l
set_option maxRecDepth 100000 in
set_option maxHeartbeats 2000000 in
theorem owned_any (B : Nat) (A0 A1 A2 : Option Addr) (n0 n1 n2 c0 c1 c2 : Nat) (y : Yd) (w : World) (hY : YdAt w B A0 A1 A2 n0 n1 n2 y) (hB : B ≤ w.heap.size) (h0 : n0 ≤ 1000) (h1 : n1 ≤ 1000) (h2 : n2 ≤ 1000) :
    Calls Tryz.prog 136 #[.agg #[.slice A0 n0 c0, .slice A1 n1 c1, .slice A2 n2 c2]] w (OwnRes w y) := by
  obtain rfl := (sec_at hY.hs).1
  obtain rfl := (sw_at hY.hw).1
  obtain rfl := (pm_at hY.hp).1
  have H0 := Lib.hid (fun W (hW : Below w.heap.size w W) => CloneSec_any B A0 y.s.length c0 (secs y.s) W (hY.hs.below (hW.mono hB)) (by have := hW.size; omega) (secs_one _) h0)
  have H2 := Lib.hid (fun W (hW : Below w.heap.size w W) => ClonePm_any B A2 y.p.length c2 (pms y.p) W (hY.hp.below (hW.mono hB)) (by have := hW.size; omega) (pms_one _) h2)
  have HW := Lib.hid hY.hw
  obtain ⟨ht, ⟨i, z, g1, g2, g3, g4, g5⟩, hp⟩ := elemSw
  have hm : ∀ w, (Instr.makeSlice 38 (.int .i64 (y.w.length : Int)) (.int .i64 (y.w.length : Int))).run Tryz.prog w = .ok (.slice (some ⟨w.heap.size, 0, none⟩) y.w.length y.w.length) (w.alloc (.cells (madeCells z.cells (y.w.length * 5)) 70)) := fun w => by
    have := run_make (P := Tryz.prog) w _ _ i z ht g1 g2 .i64 .i64 (y.w.length : Int) (y.w.length : Int) (by omega) (by omega) (by rw [g4]; omega) (by omega)
    rw [g3] at this
    simpa using this
  have hzs : Hid ((madeCells z.cells (y.w.length * 5)).size = y.w.length * 5) := size_madeCells _ _
  generalize madeCells z.cells (y.w.length * 5) = zc at *
  have HT := Lib.hid ht
  clear g1 g2 g3 g4 g5 ht hp hY i z
  go_enter Tryz.func136, Tryz.ntmps136
  go_wp2_with (with_reducible refine wpList_copy_all rfl (.tmp 8) (.tmp 10) 38 38 70 rfl 5 (w.heap.size + 1 + 1) y.w.length c1 y.w.length A1 zc 70 (sws y.w) rfl rfl HT.out ?hs ?hg ?hr hzs.out (sws_one _) ?_)
  case hs => kernel_rfl
  case hg => exact bk_
  case hr => exact ⟨B, HW.out.below bl_⟩
  intro w1 hb1 hk1 hs1 hbb1
  have b1 : Blk w1 w.heap.size 41 #[.slice A0 y.s.length c0, .slice A1 y.w.length c1, .slice A2 y.p.length c2] := (hk1 _ (by omega)).trans (show Blk _ _ _ _ from bk_)
  have b2 : Blk w1 (w.heap.size + 1) 41 #[.slice none 0 0, .slice none 0 0, .slice none 0 0] := (hk1 _ (by omega)).trans (show Blk _ _ _ _ from bk_)
  have hbw : Below w.heap.size w w1 := (bl_ : Below w.heap.size w _).trans (hbb1.mono (by omega))
  have cy := b1.cell
  have lt1 := b1.lt
  have lt2 := b2.lt
  have B2 := Lib.hid b2
  have BS := Lib.hid hb1
  clear hk1 hbb1 b1 b2 hb1 hm hzs HT
  go_wp2_with fail
  (refine wp_region_calm [w.heap.size + 1] [0, 1, 3, 4, 5] 4 (by kernel_rfl) rfl (by kernel_rfl) (by kernel_rfl) (by kernel_rfl) ?_; simp only [pickB, List.filterMap_cons, List.filterMap_nil, List.getElem?_toArray, List.getElem?_cons_zero, List.getElem?_cons_succ]; (repeat (first | ((with_reducible refine quietL_plain rfl (fun K hK => ?_)); (apply Exists.intro; refine ⟨fun wx hx => ?_, ?_⟩; (· (have hcx := ifs_ex hx); simp [go_sem, *, ↓IntWalk.iteOmega] <;> (first | rfl | exact ⟨rfl, rfl⟩ | fail)); (simp only [Act.put, List.setIfInBounds_toArray, List.set_cons_zero, List.set_cons_succ]; refine hK _ ?_; clear hK K))) | ((with_reducible refine quietL_skip (by with_unfolding_all rfl) ?_); simp only [Act.put, List.setIfInBounds_toArray, List.set_cons_zero, List.set_cons_succ]) | ((with_reducible refine quietL_want (by with_unfolding_all rfl) (fun K hK => ?_)); (apply Exists.intro; refine ⟨fun wx hx => ?_, ?_⟩; (· (have hcx := ifs_ex hx); simp [go_sem, *, ↓IntWalk.iteOmega] <;> (first | rfl | exact ⟨rfl, rfl⟩ | fail)); (simp only [Act.put, List.setIfInBounds_toArray, List.set_cons_zero, List.set_cons_succ]; refine hK _ ?_; clear hK K))))); refine quietL_nil ?_)
  (refine anyB_one (i := 2) (by kernel_rfl) rfl rfl ?_; intro wa hba K hK; obtain ⟨hca, hfa⟩ := ifs_of hba; have hsa := hba.size; (try simp at hsa); go_wp2_with fail)
  refine (H0.out _ bl_).mono ?_
  rintro e wb ⟨v0, rfl, hv0, hbb⟩
  have hsb := hbb.size
  have HV0 := Lib.hid hv0
  obtain ⟨A0', cap0, rfl, _⟩ := own_form hv0
  clear hv0
  (go_wp2; refine ⟨xs_, ?_⟩)
  (refine anyB_one (i := 6) (by kernel_rfl) rfl rfl ?_; intro wc hbc K hK; obtain ⟨hcc, hfc⟩ := ifs_of hbc; have hsc := hbc.size; (try simp at hsc); go_wp2_with fail)
  refine (H2.out _ bl_).mono ?_
  rintro e wd ⟨v2, rfl, hv2, hbd⟩
  have hsd := hbd.size
  have HV2 := Lib.hid hv2
  obtain ⟨A2', cap2, rfl, _⟩ := own_form hv2
  clear hv2
  (go_wp2; refine ⟨xs_, ?_⟩)
  (refine anyB_one (i := 7) (by kernel_rfl) rfl rfl ?_; intro we hbe K hK; obtain ⟨hce, hfe⟩ := ifs_of hbe; have hse := hbe.size; (try simp at hse); go_wp2; refine ⟨xs_, ?_⟩)
  have bR : Blk we (w.heap.size + 1) 41 #[.slice none 0 0, .slice none 0 0, .slice none 0 0] := B2.out.below (bl_ : Below (w.heap.size + 1 + 1) w1 we) (by omega)
  refine anyB_one (i := 8) (by kernel_rfl) rfl rfl ?_
  intro wf hbf K hK
  have hsf := hbf.size
  have bF := bR.kept hbf
  have cf := bF.cell
  have ff := bF.frozen
  go_wp2
  refine ⟨xs_, ?_⟩
  have g0 := bF.set_ 0 (.slice A0' y.s.length cap0)
  have g1 := g0.set_ 1 (.slice (some ⟨w.heap.size + 1 + 1, 0, none⟩) y.w.length y.w.length)
  have g2 := g1.set_ 2 (.slice A2' y.p.length cap2)
  refine anyB_end (by kernel_rfl) ?_
  intro wg hbg
  simp only [Calm]
  have gG := g2.kept hbg
  have cg := gG.cell
  have r0 : wf.ownsRow w.heap.size 133 2 (.slice A0' y.s.length cap0) y.s.length (secs y.s) := own_kept (row_base HV0.out (by omega)) (bl_)
  have r2 : wf.ownsRow w.heap.size 117 2 (.slice A2' y.p.length cap2) y.p.length (pms y.p) := own_kept (row_base HV2.out (by omega)) (bl_)
  have hS : Blk wf (w.heap.size + 1 + 1) 70 (sws y.w).toArray := BS.out.below (bl_ : Below (w.heap.size + 1 + 1 + 1) w1 wf) (by omega)
  have q0 := own_kept (row_set (i := 2) (u := .slice A2' y.p.length cap2) (row_set (i := 1) (u := .slice (some ⟨w.heap.size + 1 + 1, 0, none⟩) y.w.length y.w.length) (row_set (i := 0) (u := .slice A0' y.s.length cap0) r0 bF (by decide)) g0 (by decide)) g1 (by decide)) hbg
  have q2 := own_kept (row_set (i := 2) (u := .slice A2' y.p.length cap2) (row_set (i := 1) (u := .slice (some ⟨w.heap.size + 1 + 1, 0, none⟩) y.w.length y.w.length) (row_set (i := 0) (u := .slice A0' y.s.length cap0) r2 bF (by decide)) g0 (by decide)) g1 (by decide)) hbg
  have qS := (((hS.far (p := ⟨w.heap.size + 1, 0, none⟩) (by simp) (.slice A0' y.s.length cap0)).far (p := ⟨w.heap.size + 1, 1, none⟩) (by simp) (.slice (some ⟨w.heap.size + 1 + 1, 0, none⟩) y.w.length y.w.length)).far (p := ⟨w.heap.size + 1, 2, none⟩) (by simp) (.slice A2' y.p.length cap2)).kept hbg
  have Q := Lib.hid (And.intro q0 (And.intro qS q2))
  have hbl : Below w.heap.size w wg := bl_
  clear q0 q2 qS r0 r2 hS g0 g1 g2 bF bR
  go_wp2_with fail
  refine bodyPost_ret (v := .agg #[.slice A0' y.s.length cap0, .slice (some ⟨w.heap.size + 1 + 1, 0, none⟩) y.w.length y.w.length, .slice A2' y.p.length cap2]) (by simp [results, Tryz.results136, go_sem, cg]) rfl ?_
  exact ⟨A0', A2', cap0, cap2, w.heap.size + 1 + 1, rfl, ⟨Q.out.1, Q.out.2.1, by omega, Q.out.2.2⟩, hbl⟩
end Go.Proofs.YtphlojgmfkgeiaaGreatDoor
/- A yard after a move; a yard in a state. -/
namespace Go.Proofs.YtphlojgmfkgeiaaGreatDoor
open Go.RowKit Go.Sort Go.Shelf
set_option linter.unusedSimpArgs false
set_option linter.unusedVariables false
attribute [local go_sem] cell_if frozen_if grow_cell
theorem sws_get (l : List Sw) (i : Nat) (h : i < l.length) : (sws l).toArray[i * 5 + 4]? = some (.bool l[i].c) := by
  rw [List.getElem?_toArray, sws, flat_get (f := Sw.cells) (m := 5) (fun _ => rfl) l i 4 (by decide), List.getElem?_eq_getElem h]
  rfl
theorem sws_set (l : List Sw) (i : Nat) (q : Bool) (h : i < l.length) : (sws l).toArray.setIfInBounds (i * 5 + 4) (.bool q) = (sws (l.modify i fun x => { x with c := q })).toArray := by
  apply Array.toList_inj.1
  rw [Array.toList_setIfInBounds]
  simp only
  induction l generalizing i with
  | nil => simp at h
  | cons a r ih =>
    cases i with
    | zero => simp [sws, Sw.cells]
    | succ i =>
      have e : (i + 1) * 5 + 4 = (i * 5 + 4) + 5 := by omega
      have := ih i (by simpa using h)
      rw [e]
      simp only [sws, List.flatMap_cons, List.modify_succ_cons, Sw.cells] at this ⊢
      simp only [List.cons_append, List.nil_append, List.set_cons_succ, this]
theorem modify_moved (l : List Sw) (i : Nat) (h : i < l.length) : l.modify i (fun x => { x with c := !l[i].c }) = moved l i := by
  refine List.ext_getElem (by simp [moved]) fun j h1 h2 => ?_
  simp only [moved, List.getElem_modify]
  split
  · rename_i e; subst e; rfl
  · rfl
theorem yd_own {base : Nat} {y : Yd} {A0 A2 : Option Addr} {c0 c2 g : Nat} {w : World} (h : OwnYd base y (.slice A0 y.s.length c0) (.slice A2 y.p.length c2) g w) : YdAt w w.heap.size A0 (some ⟨g, 0, none⟩) A2 y.s.length y.w.length y.p.length y := by
  obtain ⟨h1, h2, h3, h4⟩ := h
  obtain ⟨A, c, e, _, _, r1⟩ := own_form h1
  cases e
  obtain ⟨A, c, e, _, _, r2⟩ := own_form h4
  cases e
  refine ⟨r1, ?_, r2⟩
  have := Reads.blk (size := 5) (n := y.w.length) h2 (by simp [sws_len])
  simpa using this.more h2.lt
theorem OwnYd.kept {base : Nat} {y : Yd} {v0 v2 : Value} {g : Nat} {w w' : World} (h : OwnYd base y v0 v2 g w) (hb : Below w.heap.size w w') : OwnYd base y v0 v2 g w' :=
  ⟨own_kept h.1 hb, h.2.1.kept hb, h.2.2.1, own_kept h.2.2.2 hb⟩
theorem OwnYd.base {base base' : Nat} {y : Yd} {v0 v2 : Value} {g : Nat} {w : World} (h : OwnYd base y v0 v2 g w) (hb : base' ≤ base) : OwnYd base' y v0 v2 g w :=
  ⟨row_base h.1 hb, h.2.1, by have := h.2.2.1; omega, row_base h.2.2.2 hb⟩
/-- A store into a block of another type. -/
theorem OwnYd.far {base : Nat} {y : Yd} {v0 v2 : Value} {g : Nat} {w : World} {k i : Nat} {t : TypeId} {c : Array Value} (h : OwnYd base y v0 v2 g w) (hk : Blk w k t c) (u : Value) (h1 : 133 ≠ t) (h2 : 70 ≠ t) (h3 : 117 ≠ t) : OwnYd base y v0 v2 g (w.setCell ⟨k, i, none⟩ u) :=
  ⟨row_set h.1 hk h1, h.2.1.far (blk_ne h.2.1 hk h2) u, h.2.2.1, row_set h.2.2.2 hk h3⟩
/-- A store of whether a switch is closed. -/
theorem OwnYd.close {base : Nat} {y : Yd} {v0 v2 : Value} {g i : Nat} {w : World} (h : OwnYd base y v0 v2 g w) (q : Bool) (hi : i < y.w.length) : OwnYd base { y with w := y.w.modify i fun x => { x with c := q } } v0 v2 g (w.setCell ⟨g, i * 5 + 4, none⟩ (.bool q)) := by
  refine ⟨row_set h.1 h.2.1 (by decide), ?_, h.2.2.1, row_set h.2.2.2 h.2.1 (by decide)⟩
  have := h.2.1.set_ (i * 5 + 4) (.bool q)
  rw [sws_set _ _ _ hi] at this
  exact this
set_option maxRecDepth 100000 in
set_option maxHeartbeats 2000000 in
theorem moved_any (B : Nat) (A0 A1 A2 : Option Addr) (n0 n1 n2 c0 c1 c2 : Nat) (y : Yd) (i : Nat) (w : World) (hY : YdAt w B A0 A1 A2 n0 n1 n2 y) (hB : B ≤ w.heap.size) (h0 : n0 ≤ 1000) (h1 : n1 ≤ 1000) (h2 : n2 ≤ 1000) (hi : i < y.w.length) :
    Calls Tryz.prog 132 #[.agg #[.slice A0 n0 c0, .slice A1 n1 c1, .slice A2 n2 c2], .int .i64 (i : Int)] w (OwnRes w (y.mv i)) := by
  have HO := Lib.hid (fun W (hW : Below w.heap.size w W) => owned_any B A0 A1 A2 n0 n1 n2 c0 c1 c2 y W (hY.below (hW.mono hB)) (by have := hW.size; omega) h0 h1 h2)
  have hl1 := (sw_at hY.hw).1
  have hi1 : (i : Int) < (n1 : Int) := by omega
  clear hY
  go_enter Tryz.func132, Tryz.ntmps132
  go_wp2_with fail
  refine (HO.out _ bl_).mono ?_
  rintro e w1 ⟨A0', A2', c0', c2', g, rfl, hO, hb1⟩
  have hs1 := hb1.size
  simp at hs1
  have HOw := Lib.hid hO
  have hg := hO.2.2.1
  simp at hg
  have hlt := hO.2.1.lt
  have hcell : w1.cell? ⟨g, i * 5 + 4, none⟩ = some (.bool y.w[i].c) := by rw [hO.2.1.cell, sws_get _ _ hi]
  have hfr := hO.2.1.frozen
  have hng : w1.heap.size ≠ g := by omega
  have hmm := Lib.hid (modify_moved y.w i hi)
  have b4 : Blk w1 (w.heap.size + 1) 41 #[.slice none 0 0, .slice none 0 0, .slice none 0 0] := (show Blk _ _ _ _ from bk_)
  have B4 := Lib.hid b4
  have lt4 := b4.lt
  have HI := Lib.hid hi
  generalize y.w[i].c = q at *
  clear hO b4
  obtain ⟨hc1, hf1⟩ := ifs_of hb1; have hs1 := hb1.size; (try simp at hs1)
  go_wp2_with fail
  (refine wp_region_calm [g] [0, 1, 2, 3, 4, 5, 6, 7] 5 (by kernel_rfl) rfl (by kernel_rfl) (by kernel_rfl) (by kernel_rfl) ?_; simp only [pickB, List.filterMap_cons, List.filterMap_nil, List.getElem?_toArray, List.getElem?_cons_zero, List.getElem?_cons_succ]; (repeat (first | ((with_reducible refine quietL_plain rfl (fun K hK => ?_)); (apply Exists.intro; refine ⟨fun wx hx => ?_, ?_⟩; (· (have hcx := ifs_ex hx); simp [go_sem, *, ↓IntWalk.iteOmega] <;> (first | rfl | exact ⟨rfl, rfl⟩ | fail)); (simp only [Act.put, List.setIfInBounds_toArray, List.set_cons_zero, List.set_cons_succ]; refine hK _ ?_; clear hK K))) | ((with_reducible refine quietL_skip (by with_unfolding_all rfl) ?_); simp only [Act.put, List.setIfInBounds_toArray, List.set_cons_zero, List.set_cons_succ]) | ((with_reducible refine quietL_want (by with_unfolding_all rfl) (fun K hK => ?_)); (apply Exists.intro; refine ⟨fun wx hx => ?_, ?_⟩; (· (have hcx := ifs_ex hx); simp [go_sem, *, ↓IntWalk.iteOmega] <;> (first | rfl | exact ⟨rfl, rfl⟩ | fail)); (simp only [Act.put, List.setIfInBounds_toArray, List.set_cons_zero, List.set_cons_succ]; refine hK _ ?_; clear hK K))))); refine quietL_nil ?_)
  (refine anyB_one (i := 8) (by kernel_rfl) rfl rfl ?_; intro w2 hb2 K hK; obtain ⟨hc2, hf2⟩ := ifs_of hb2; have hs2 := hb2.size; (try simp at hs2); go_wp2; refine ⟨xs_, ?_⟩)
  (refine anyB_one (i := 9) (by kernel_rfl) rfl rfl ?_; intro w3 hb3 K hK; obtain ⟨hc3, hf3⟩ := ifs_of hb3; have hs3 := hb3.size; (try simp at hs3); go_wp2; refine ⟨xs_, ?_⟩)
  (refine anyB_one (i := 10) (by kernel_rfl) rfl rfl ?_; intro w6 hb6 K hK; obtain ⟨hc6, hf6⟩ := ifs_of hb6; have hs6 := hb6.size; (try simp at hs6); go_wp2; refine ⟨xs_, ?_⟩)
  (refine anyB_one (i := 11) (by kernel_rfl) rfl rfl ?_; intro w7 hb7 K hK; obtain ⟨hc7, hf7⟩ := ifs_of hb7; have hs7 := hb7.size; (try simp at hs7); go_wp2; refine ⟨xs_, ?_⟩)
  refine anyB_one (i := 12) (by kernel_rfl) rfl rfl ?_
  intro w4 hb4 K hK
  have hs4 := hb4.size
  have hO4 : OwnYd w.heap.size y (.slice A0' y.s.length c0') (.slice A2' y.p.length c2') g w4 := (HOw.out.base (by simp; omega)).kept bl_
  have f4 := hO4.2.1.frozen
  have e4 : w4.cell? ⟨g, i * 5 + 4, none⟩ = some (.bool q) := (Below.cell (bl_ : Below w1.heap.size w1 w4) hlt).trans hcell
  have bo4 : Blk w4 w1.heap.size 41 #[.slice A0' y.s.length c0', .slice (some ⟨g, 0, none⟩) n1 n1, .slice A2' y.p.length c2'] := (show Blk _ _ _ _ from bk_)
  have b44 : Blk w4 (w.heap.size + 1) 41 #[.slice none 0 0, .slice none 0 0, .slice none 0 0] := B4.out.below (bl_ : Below w1.heap.size w1 w4) lt4
  have HBL4 := Lib.hid (bl_ : Below w.heap.size w w4)
  go_wp2
  refine ⟨xs_, ?_⟩
  refine anyB_end (by kernel_rfl) ?_
  intro w5 hb5
  have hbl4 := HBL4.out
  have hs5 : w4.heap.size ≤ w5.heap.size := by have := hb5.size; simpa [World.setCell] using this
  have hO5 := (hO4.close (!q) HI.out).kept hb5
  rw [hmm.out] at hO5
  have bo5 := (bo4.far (p := ⟨g, i * 5 + 4, none⟩) hng (.bool !q)).kept hb5
  have b45 := (b44.far (p := ⟨g, i * 5 + 4, none⟩) (by simp; omega) (.bool !q)).kept hb5
  have hbl5 : Below w.heap.size w w5 := (hbl4.setCell (p := ⟨g, i * 5 + 4, none⟩) (by simp; omega) (.bool !q)).trans (hb5.mono (by have := hbl4.size; simp [World.setCell]; omega))
  have co5 := bo5.cell
  have c45 := b45.cell
  have f45 := b45.frozen
  have k0 := b45.set_ 0 (.slice A0' y.s.length c0')
  have k1 := k0.set_ 1 (.slice (some ⟨g, 0, none⟩) n1 n1)
  have k2 := k1.set_ 2 (.slice A2' y.p.length c2')
  have hO6 := ((hO5.far (i := 0) b45 (.slice A0' y.s.length c0') (by decide) (by decide) (by decide)).far (i := 1) k0 (.slice (some ⟨g, 0, none⟩) n1 n1) (by decide) (by decide) (by decide)).far (i := 2) k1 (.slice A2' y.p.length c2') (by decide) (by decide) (by decide)
  have hbl6 := ((hbl5.setCell (p := ⟨w.heap.size + 1, 0, none⟩) (by simp) (.slice A0' y.s.length c0')).setCell (p := ⟨w.heap.size + 1, 1, none⟩) (by simp) (.slice (some ⟨g, 0, none⟩) n1 n1)).setCell (p := ⟨w.heap.size + 1, 2, none⟩) (by simp) (.slice A2' y.p.length c2')
  have ck := k2.cell
  have HO6 := Lib.hid (And.intro hO6 hbl6)
  have HL1 := Lib.hid hl1
  simp only [Calm]
  clear hO6 hbl6 hO5 hO4 k0 k1 k2 hbl5 hbl4 hb5 hcell e4 hfr hb4 hb3 hb2 hb6 hb7 hc2 hc3 hf2 hf3 hc6 hf6 hc7 hf7 hl1
  go_wp2_with fail
  refine bodyPost_ret (v := .agg #[.slice A0' y.s.length c0', .slice (some ⟨g, 0, none⟩) n1 n1, .slice A2' y.p.length c2']) (by simp [results, Tryz.results132, go_sem, ck]) rfl ?_
  refine ⟨A0', A2', c0', c2', g, ?_, HO6.out.1, HO6.out.2⟩
  show Ending.returned (.agg #[_, .slice _ n1 n1, _]) = .returned (.agg #[_, .slice _ (moved y.w i).length (moved y.w i).length, _])
  rw [moved_len, HL1.out]
  rfl
end Go.Proofs.YtphlojgmfkgeiaaGreatDoor
