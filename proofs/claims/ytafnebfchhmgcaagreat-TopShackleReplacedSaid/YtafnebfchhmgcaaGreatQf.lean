/- Joined texts: UX UV UY BB BG BH. -/
import Derived.Test.YtafnebfchhmgcaaGreatQe
import Derived.Test.YtafnebfchhmgcaaGreatQc
/- Library: the greatest and the least of a list. -/
namespace Go.Proofs.YtafnebfchhmgcaaGreat
open Go.RowKit Go.Sort Go.Shelf
set_option linter.unusedSimpArgs false
set_option linter.unusedVariables false
attribute [local go_sem] cell_if frozen_if grow_cell
end Go.Proofs.YtafnebfchhmgcaaGreat
/- Usable of the program; the state of a module. -/
namespace Go.Proofs.YtafnebfchhmgcaaGreat
open Go.RowKit Go.Sort Go.Shelf
set_option linter.unusedSimpArgs false
set_option linter.unusedVariables false
attribute [local go_sem] cell_if frozen_if grow_cell
theorem all_any (x : Md) (w : World) : Calls Tryz.prog 88 #[.agg #[.string x.n, .int .i64 x.q, .bool x.on, .bool x.by_]] w fun e w' => e = .returned (.bool true) ∧ Below w.heap.size w w' := by
  go_enter Tryz.func88, Tryz.ntmps88
  go_wp2
  go_ret
  exact ⟨rfl, bl_⟩
def onN (x : Md) : Int := if x.on then 0 else 1
theorem mon_any (x : Md) (w : World) : Calls Tryz.prog 162 #[.agg #[.string x.n, .int .i64 x.q, .bool x.on, .bool x.by_]] w fun e w' => e = .returned (.int .i64 (onN x)) ∧ Below w.heap.size w w' := by
  obtain ⟨xn, xq, xo, xb⟩ := x
  cases xo
  all_goals
    dsimp only
    go_enter Tryz.func162, Tryz.ntmps162
    go_wp2
    go_ret
    exact ⟨rfl, bl_⟩
def resI (e : Int) (zs : List Int) : List Int := if e = 0 then zs else []
def IntsERes (w : World) (zs : List Int) (er : Int) (e : Ending) (w' : World) : Prop := ∃ A cap, e = .returned (.tuple #[.slice A zs.length cap, .int .i64 er]) ∧ Reads w' w'.heap.size 1 A zs.length (zs.map (.int .i64)) ∧ Below w.heap.size w w'
theorem idxs_all (a : Ar) : idxs (fun x => usB x && true) 0 a.m = usL a := idxs_congr fun x _ => by simp
set_option maxHeartbeats 1000000 in
theorem Usable_any (B : Nat) (A : Option Addr) (n c : Nat) (a : Ar) (w : World) (hM : MsAt w B A n a.m) (hB : B ≤ w.heap.size) (hF : FitA a) (hnc : n ≤ c) :
    Calls Tryz.prog 34 #[.agg #[.slice A n c, .int .i64 a.lo, .int .i64 a.hi, .int .i64 a.cur, .int .i64 a.lim]] w (IntsERes w (resI (armE a) (usL a)) (armE a)) := by
  have hl := (md_at hM).1
  have h17 := hF.len
  have HC := Lib.hid (fun W (hW : Below w.heap.size w W) => CheckArm_any B A n c a W (hM.below (hW.mono hB)) (by have := hW.size; omega) hF hnc)
  have HI := Lib.hid (fun W (hW : Below w.heap.size w W) => indices_any 88 #[] #[] B A n c a (fun _ => true) W (hM.below (hW.mono hB)) (by have := hW.size; omega) (by omega) (enters_of Tryz.func88 (by kernel_rfl) rfl) (fun W' _ x _ => all_any x W'))
  have HU := Lib.hid (idxs_all a)
  unfold resI
  generalize armE a = ee at *
  clear hM hl h17 hF hnc
  by_cases h0 : ee = 0
  · subst h0
    rw [if_pos rfl]
    go_enter Tryz.func34, Tryz.ntmps34
    go_wp2_with fail
    refine (HC.out _ bl_).mono ?_
    (rintro e w1 ⟨rfl, hb1⟩; have hs1 := hb1.size; (try simp at hs1))
    have bA : Blk w1 w.heap.size 36 #[.slice A n c, .int .i64 a.lo, .int .i64 a.hi, .int .i64 a.cur, .int .i64 a.lim] := bk_
    have hb1' : Below w.heap.size w w1 := bl_
    have cA := bA.cell
    have lA := bA.lt
    have HB1 := Lib.hid hb1'
    clear hb1 hb1' bA
    go_wp2_with fail
    refine (HI.out _ HB1.out).mono ?_
    rintro e w2 ⟨v, rfl, hr, hb2⟩
    rw [HU.out] at hr
    obtain ⟨A2, cap2, rfl, _, _, hrd⟩ := own_form hr
    go_wp2_with fail
    go_ret2
    exact ⟨A2, cap2, rfl, hrd, HB1.out.trans (hb2.mono HB1.out.size)⟩
  · have hne : (ee != 0) = true := by simpa using h0
    rw [if_neg h0]
    go_enter Tryz.func34, Tryz.ntmps34
    go_wp2_with fail
    refine (HC.out _ bl_).mono ?_
    (rintro e w1 ⟨rfl, hb1⟩; have hs1 := hb1.size; (try simp at hs1))
    go_wp2_with fail
    go_ret2
    exact ⟨none, 0, rfl, Reads.nil_, bl_⟩
end Go.Proofs.YtafnebfchhmgcaaGreat
/- The spread of the program. -/
namespace Go.Proofs.YtafnebfchhmgcaaGreat
open Go.RowKit Go.Sort Go.Shelf
set_option linter.unusedSimpArgs false
set_option linter.unusedVariables false
attribute [local go_sem] cell_if frozen_if grow_cell
attribute [local go_sem] Oper.semAt_some
theorem Ex.low {w w' : World} (h : Ex [] w w') : Below w.heap.size w w' := ⟨h.os, h.tape, h.output, h.size, fun k hk => h.block k hk (by simp)⟩
def chTo (l : List Md) (pre : List (Us l)) : List Int := pre.map fun x => x.m.q
theorem chTo_chs {l : List Md} : ∀ k, k ≤ l.length → chTo l (uTo l k) = chsL (l.take k)
  | 0, _ => rfl
  | k + 1, h => by
    have ih := chTo_chs (l := l) k (by omega)
    have hk : k < l.length := by omega
    rw [chsL_take hk, ← ih]
    show chTo l (uTo l k ++ oneU l k) = _
    unfold usB chTo
    rw [List.map_append]
    cases hb : (l[k]).by_ with
    | true => rw [oneU_no hk hb]; simp
    | false =>
      rw [oneU_yes hk hb]
      rfl
/-- Between two modules. -/
structure SpI (w : World) (l : List Md) (pre : List (Us l)) (W : World) : Prop where
  out : ∃ v, Blk W (w.heap.size + 1) 73 #[v] ∧ W.ownsRow (w.heap.size + 1 + 1 + 1) 3 1 v (chTo l pre).length ((chTo l pre).map (.int .i64))
  low : Below w.heap.size w W
  le : w.heap.size + 1 + 1 + 1 ≤ W.heap.size
theorem SpI.grown {w : World} {l : List Md} {pre : List (Us l)} {U V : World} {row : Option Nat} (hs : SpI w l pre U) (hg : U.grownBy V row) (hr : ∀ r, row = some r → w.heap.size + 1 + 1 + 1 ≤ r ∧ ∀ t c, ¬ Blk U r t c) : SpI w l pre V := by
  obtain ⟨⟨v, h1, h2⟩, h4, h5⟩ := hs
  refine ⟨⟨v, (hg.block _ h1.lt (fun e => (hr _ e.symm).2 _ _ h1)).trans h1, row_grown h2 hg fun r e c hb => (hr r e).2 _ _ hb⟩, h4.grown hg (by omega) (fun j hj => by have := (hr j hj).1; omega), Nat.le_trans h5 hg.size⟩
end Go.Proofs.YtafnebfchhmgcaaGreat
/- Spread of the program; what the readings give where the arm has an error. -/
namespace Go.Proofs.YtafnebfchhmgcaaGreat
open Go.RowKit Go.Sort Go.Shelf
set_option linter.unusedSimpArgs false
set_option linter.unusedVariables false
attribute [local go_sem] cell_if frozen_if grow_cell
set_option maxHeartbeats 1000000 in
theorem Energy_no (B : Nat) (A : Option Addr) (n c : Nat) (a : Ar) (w : World) (hM : MsAt w B A n a.m) (hB : B ≤ w.heap.size) (hF : FitA a) (hnc : n ≤ c) (hE : armE a ≠ 0) :
    Calls Tryz.prog 18 #[.agg #[.slice A n c, .int .i64 a.lo, .int .i64 a.hi, .int .i64 a.cur, .int .i64 a.lim]] w fun e w' => e = .returned (.tuple #[.int .i64 0, .int .i64 (armE a)]) ∧ Below w.heap.size w w' := by
  have HC := Lib.hid (fun W (hW : Below w.heap.size w W) => CheckArm_any B A n c a W (hM.below (hW.mono hB)) (by have := hW.size; omega) hF hnc)
  have hne : (armE a != 0) = true := by simpa using hE
  generalize armE a = ee at *
  clear hM hF hnc
  go_enter Tryz.func18, Tryz.ntmps18
  go_wp2_with fail
  refine (HC.out _ bl_).mono ?_
  (rintro e w1 ⟨rfl, hb1⟩; have hs1 := hb1.size; (try simp at hs1))
  go_wp2_with fail
  go_ret2
  exact ⟨rfl, bl_⟩
end Go.Proofs.YtafnebfchhmgcaaGreat
/- Orders of the program: their errors; what is refused. -/
namespace Go.Proofs.YtafnebfchhmgcaaGreat
open Go.RowKit Go.Sort Go.Shelf
set_option linter.unusedSimpArgs false
set_option linter.unusedVariables false
attribute [local go_sem] cell_if frozen_if grow_cell
theorem mon1_any (x : Md) (w : World) : Calls Tryz.prog 130 #[.agg #[.string x.n, .int .i64 x.q, .bool x.on, .bool x.by_]] w fun e w' => e = .returned (.bool x.on) ∧ Below w.heap.size w w' := by
  go_enter Tryz.func130, Tryz.ntmps130
  go_wp2
  go_ret
  exact ⟨rfl, bl_⟩
set_option maxRecDepth 100000 in
set_option maxHeartbeats 1000000 in
theorem ocheck_any (o : Od) (w : World) : Calls Tryz.prog 54 #[.agg #[.int .i64 o.n, .int .i64 o.c]] w fun e w' => e = .returned (.int .i64 (orderE o)) ∧ Below w.heap.size w w' := by
  unfold orderE
  go_enter Tryz.func54, Tryz.ntmps54
  go_wp2_with fail
  (refine wp_region_calm [] [0, 1, 2, 3, 4, 5] 3 (by kernel_rfl) rfl (by kernel_rfl) (by kernel_rfl) (by kernel_rfl) ?_; simp only [pickB, List.filterMap_cons, List.filterMap_nil, List.getElem?_toArray, List.getElem?_cons_zero, List.getElem?_cons_succ]; (repeat (first | ((first | (with_reducible refine quietL_plain rfl (fun K hK => ?_)) | (with_reducible refine quietL_want (by with_unfolding_all rfl) (fun K hK => ?_))); (apply Exists.intro; refine ⟨fun wx hx => ?_, ?_⟩; (· (have hcx := ifs_ex hx); simp [go_sem, *, ↓IntWalk.iteOmega] <;> (first | rfl | exact ⟨rfl, rfl⟩ | (with_reducible exact calls_B (calls_below (awithin_any _ _ _ _))))); (simp only [Act.put, List.setIfInBounds_toArray, List.set_cons_zero, List.set_cons_succ]; refine hK _ ?_; clear hK K))) | ((with_reducible refine quietL_skip (by with_unfolding_all rfl) ?_); simp only [Act.put, List.setIfInBounds_toArray, List.set_cons_zero, List.set_cons_succ]))); refine quietL_nil ?_)
  (refine anyB_one (i := 6) (by kernel_rfl) rfl rfl ?_; intro w2 hb2 K hK; obtain ⟨hc2, hf2⟩ := ifs_of hb2; have hs2 := hb2.size; (try simp at hs2); go_wp2; refine ⟨xs_, ?_⟩)
  (refine anyB_one (i := 7) (by kernel_rfl) rfl rfl ?_; intro w3 hb3 K hK; obtain ⟨hc3, hf3⟩ := ifs_of hb3; have hs3 := hb3.size; (try simp at hs3); go_wp2_with fail; refine (afirst_any (w2.heap.size + 1) _ 2 2 [ckR o.n 0 16, ckR o.c (-1000) 1000] _ ((by simpa using Reads.new (size := 1) w2 (([ckR o.n 0 16, ckR o.c (-1000) 1000]).map (.int .i64)).toArray 31 2 rfl : Reads (w2.alloc (.cells (([ckR o.n 0 16, ckR o.c (-1000) 1000]).map (.int .i64)).toArray 31)) (w2.heap.size + 1) 1 (some ⟨w2.heap.size, 0, none⟩) 2 (([ckR o.n 0 16, ckR o.c (-1000) 1000]).map (.int .i64))).below (hb3.mono (by simp))) (by unfold maxLen; decide)).mono ?_; rintro e w3' ⟨rfl, rfl⟩; go_wp2; refine ⟨xs_, ?_⟩)
  (refine anyB_one (i := 8) (by kernel_rfl) rfl rfl ?_; intro w4 hb4 K hK; obtain ⟨hc4, hf4⟩ := ifs_of hb4; have hs4 := hb4.size; (try simp at hs4); go_wp2; refine ⟨xs_, ?_⟩)
  (refine anyB_end (by kernel_rfl) ?_; intro w5 hb5; obtain ⟨hc5, hf5⟩ := ifs_of hb5; have hs5 := hb5.size; (try simp at hs5); simp only [Calm])
  go_wp2_with fail
  go_ret
  exact ⟨rfl, bl_⟩
set_option maxRecDepth 100000 in
set_option maxHeartbeats 4000000 in
theorem refused_any (B : Nat) (A : Option Addr) (n c : Nat) (a : Ar) (o : Od) (w : World) (hM : MsAt w B A n a.m) (hB : B ≤ w.heap.size) (hn : n ≤ 17) (hF : Fit a) (ho : orderE o = 0) :
    Calls Tryz.prog 94 #[.agg #[.slice A n c, .int .i64 a.lo, .int .i64 a.hi, .int .i64 a.cur, .int .i64 a.lim], .agg #[.int .i64 o.n, .int .i64 o.c]] w fun e w' => e = .returned (.int .i64 (refE a o)) ∧ Below w.heap.size w w' := by
  have hl := (md_at hM).1
  obtain ⟨⟨hn0, hn1⟩, hc0, hc1⟩ := order_zero ho
  have HI := Lib.hid (fun W (hW : Below w.heap.size w W) => indices_any 130 #[] #[] B A n c a (fun x => x.on) W (hM.below (hW.mono hB)) (by have := hW.size; omega) (by omega) (enters_of Tryz.func130 (by kernel_rfl) rfl) (fun W' _ x _ => mon1_any x W'))
  have HJ := Lib.hid (fun W (hW : Below w.heap.size w W) => indices_any 88 #[] #[] B A n c a (fun _ => true) W (hM.below (hW.mono hB)) (by have := hW.size; omega) (by omega) (enters_of Tryz.func88 (by kernel_rfl) rfl) (fun W' _ x _ => all_any x W'))
  rw [onL_us hF] at HI
  rw [idxs_all a] at HJ
  have h1 : (onL a).length ≤ n := by have := idxs_len (fun x : Md => x.on) a.m 0; have h2 : (onL a).length = (idxs (fun x : Md => x.on) 0 a.m).length := rfl; omega
  have h2 : (usL a).length ≤ n := by have := idxs_len usB a.m 0; have h2 : (usL a).length = (idxs usB 0 a.m).length := rfl; omega
  unfold refE
  have hwr : IntKind.i64.wrap (o.n - ((onL a).length : Int)) = o.n - ((onL a).length : Int) := by rw [IntKind.wrap_i64]; omega
  unfold IdRes at HI HJ
  generalize (onL a).length = L1 at *
  generalize (usL a).length = L2 at *
  clear hM hl hF ho
  go_enter Tryz.func94, Tryz.ntmps94
  go_wp2_with fail
  (refine wp_region_calm [] [0, 3] 6 (by kernel_rfl) rfl (by kernel_rfl) (by kernel_rfl) (by kernel_rfl) ?_; simp only [pickB, List.filterMap_cons, List.filterMap_nil, List.getElem?_toArray, List.getElem?_cons_zero, List.getElem?_cons_succ]; (repeat (first | ((first | (with_reducible refine quietL_plain rfl (fun K hK => ?_)) | (with_reducible refine quietL_want (by with_unfolding_all rfl) (fun K hK => ?_))); (apply Exists.intro; refine ⟨fun wx hx => ?_, ?_⟩; (· (have hcx := ifs_ex hx); simp [go_sem, *, ↓IntWalk.iteOmega] <;> (first | rfl | exact ⟨rfl, rfl⟩ | fail)); (simp only [Act.put, List.setIfInBounds_toArray, List.set_cons_zero, List.set_cons_succ]; refine hK _ ?_; clear hK K))) | ((with_reducible refine quietL_skip (by with_unfolding_all rfl) ?_); simp only [Act.put, List.setIfInBounds_toArray, List.set_cons_zero, List.set_cons_succ]))); refine quietL_nil ?_)
  (refine anyB_one (i := 1) (by kernel_rfl) rfl rfl ?_; intro w2 hb2 K hK; have hs2 := hb2.size; (try simp at hs2); go_wp2_with fail)
  refine (HI.out _ bl_).mono ?_
  rintro e w3 ⟨v1, rfl, hr1, hb3⟩
  obtain ⟨A1, cap1, rfl, _, _, _⟩ := own_form hr1
  have hs3 := hb3.size
  clear hr1
  (go_wp2; refine ⟨xs_, ?_⟩)
  (refine anyB_quiet_at (by kernel_rfl) calm_panic xs_ 4 [2] _ _ (by kernel_rfl) (by decide +kernel) ?_; simp only [pickB, List.filterMap_cons, List.filterMap_nil, List.getElem?_toArray, List.getElem?_cons_zero, List.getElem?_cons_succ]; (repeat (first | ((first | (with_reducible refine quietL_plain rfl (fun K hK => ?_)) | (with_reducible refine quietL_want (by with_unfolding_all rfl) (fun K hK => ?_))); (apply Exists.intro; refine ⟨fun wx hx => ?_, ?_⟩; (· (have hcx := ifs_ex hx); simp [go_sem, *, ↓IntWalk.iteOmega] <;> (first | rfl | exact ⟨rfl, rfl⟩ | fail)); (simp only [Act.put, List.setIfInBounds_toArray, List.set_cons_zero, List.set_cons_succ]; refine hK _ ?_; clear hK K))) | ((with_reducible refine quietL_skip (by with_unfolding_all rfl) ?_); simp only [Act.put, List.setIfInBounds_toArray, List.set_cons_zero, List.set_cons_succ]))); refine quietL_nil ?_)
  (refine anyB_one (i := 4) (by kernel_rfl) rfl rfl ?_; intro w4 hb4 K hK; have hs4 := hb4.size; (try simp at hs4); go_wp2_with fail)
  have hb4' : Below w.heap.size w w4 := bl_
  refine (HJ.out _ hb4').mono ?_
  rintro e w5 ⟨v2, rfl, hr2, hb5⟩
  obtain ⟨A2, cap2, rfl, _, _, _⟩ := own_form hr2
  have hs5 := hb5.size
  clear hr2 hb4'
  (go_wp2; refine ⟨xs_, ?_⟩)
  (refine anyB_quiet_at (by kernel_rfl) calm_panic xs_ 2 [5] _ _ (by kernel_rfl) (by decide +kernel) ?_; simp only [pickB, List.filterMap_cons, List.filterMap_nil, List.getElem?_toArray, List.getElem?_cons_zero, List.getElem?_cons_succ]; (repeat (first | ((first | (with_reducible refine quietL_plain rfl (fun K hK => ?_)) | (with_reducible refine quietL_want (by with_unfolding_all rfl) (fun K hK => ?_))); (apply Exists.intro; refine ⟨fun wx hx => ?_, ?_⟩; (· (have hcx := ifs_ex hx); simp [go_sem, *, ↓IntWalk.iteOmega] <;> (first | rfl | exact ⟨rfl, rfl⟩ | fail)); (simp only [Act.put, List.setIfInBounds_toArray, List.set_cons_zero, List.set_cons_succ]; refine hK _ ?_; clear hK K))) | ((with_reducible refine quietL_skip (by with_unfolding_all rfl) ?_); simp only [Act.put, List.setIfInBounds_toArray, List.set_cons_zero, List.set_cons_succ]))); refine quietL_nil ?_)
  (refine anyB_one (i := 6) (by kernel_rfl) rfl rfl ?_; intro w6 hb6 K hK; have hs6 := hb6.size; (try simp at hs6); go_wp2; refine ⟨xs_, ?_⟩)
  (refine anyB_one (i := 7) (by kernel_rfl) rfl rfl ?_; intro w7 hb7 K hK; have hs7 := hb7.size; (try simp at hs7); go_wp2; refine ⟨xs_, ?_⟩)
  (refine anyB_end (by kernel_rfl) ?_; intro w8 hb8; have hs8 := hb8.size; (try simp at hs8); simp only [Calm])
  have bA : Blk w8 w.heap.size 36 #[.slice A n c, .int .i64 a.lo, .int .i64 a.hi, .int .i64 a.cur, .int .i64 a.lim] := bk_
  have bO : Blk w8 (w.heap.size + 1) 45 #[.int .i64 o.n, .int .i64 o.c] := bk_
  have hb8' : Below w.heap.size w w8 := bl_
  have HB8 := Lib.hid hb8'
  have cA := bA.cell
  have lA := bA.lt
  have cO := bO.cell
  have lO := bO.lt
  clear hb2 hb3 hb4 hb5 hb6 hb7 hb8 hb8' hs2 hs3 hs4 hs5 hs6 hs7 hs8 HI HJ
  go_wp2_with fail
  (refine wp_region_calm [] [0, 1, 2, 3, 4, 5, 6, 7, 8, 9, 10, 11, 12, 13, 14, 15, 16, 17, 18, 19, 20] 3 (by kernel_rfl) rfl (by kernel_rfl) (by kernel_rfl) (by kernel_rfl) ?_; simp only [pickB, List.filterMap_cons, List.filterMap_nil, List.getElem?_toArray, List.getElem?_cons_zero, List.getElem?_cons_succ]; (repeat (first | ((first | (with_reducible refine quietL_plain rfl (fun K hK => ?_)) | (with_reducible refine quietL_want (by with_unfolding_all rfl) (fun K hK => ?_))); (apply Exists.intro; refine ⟨fun wx hx => ?_, ?_⟩; (· (have hcx := ifs_ex hx); simp [go_sem, *, ↓IntWalk.iteOmega] <;> (first | rfl | exact ⟨rfl, rfl⟩ | (first | (with_reducible exact calls_B (calls_below (awhen_any _ _ _))) | (with_reducible exact calls_B (calls_below (absolute_any _ _ (by omega) (by omega))))))); (simp only [Act.put, List.setIfInBounds_toArray, List.set_cons_zero, List.set_cons_succ]; refine hK _ ?_; clear hK K))) | ((with_reducible refine quietL_skip (by with_unfolding_all rfl) ?_); simp only [Act.put, List.setIfInBounds_toArray, List.set_cons_zero, List.set_cons_succ]))); refine quietL_nil ?_)
  (refine anyB_one (i := 21) (by kernel_rfl) rfl rfl ?_; intro w10 hb10 K hK; obtain ⟨hc10, hf10⟩ := ifs_of hb10; have hs10 := hb10.size; (try simp at hs10); go_wp2; refine ⟨xs_, ?_⟩)
  (refine anyB_one (i := 22) (by kernel_rfl) rfl rfl ?_; intro w11 hb11 K hK; obtain ⟨hc11, hf11⟩ := ifs_of hb11; have hs11 := hb11.size; (try simp at hs11); go_wp2_with fail; refine (afirst_any (w10.heap.size + 1) _ 3 3 [whenE (decide (a.cur < absI o.c)) 31, whenE (decide ((L2 : Int) < o.n)) 18, whenE (decide (a.lim < absI (o.n - (L1 : Int)))) 21] _ ((by simpa using Reads.new (size := 1) w10 (([whenE (decide (a.cur < absI o.c)) 31, whenE (decide ((L2 : Int) < o.n)) 18, whenE (decide (a.lim < absI (o.n - (L1 : Int)))) 21]).map (.int .i64)).toArray 31 3 rfl : Reads (w10.alloc (.cells (([whenE (decide (a.cur < absI o.c)) 31, whenE (decide ((L2 : Int) < o.n)) 18, whenE (decide (a.lim < absI (o.n - (L1 : Int)))) 21]).map (.int .i64)).toArray 31)) (w10.heap.size + 1) 1 (some ⟨w10.heap.size, 0, none⟩) 3 (([whenE (decide (a.cur < absI o.c)) 31, whenE (decide ((L2 : Int) < o.n)) 18, whenE (decide (a.lim < absI (o.n - (L1 : Int)))) 21]).map (.int .i64))).below (hb11.mono (by simp))) (by unfold maxLen; decide)).mono ?_; rintro e w11' ⟨rfl, rfl⟩; go_wp2; refine ⟨xs_, ?_⟩)
  (refine anyB_one (i := 23) (by kernel_rfl) rfl rfl ?_; intro w12 hb12 K hK; obtain ⟨hc12, hf12⟩ := ifs_of hb12; have hs12 := hb12.size; (try simp at hs12); go_wp2; refine ⟨xs_, ?_⟩)
  (refine anyB_end (by kernel_rfl) ?_; intro w13 hb13; obtain ⟨hc13, hf13⟩ := ifs_of hb13; have hs13 := hb13.size; (try simp at hs13); simp only [Calm])
  have hb13' : Below w8.heap.size w8 w13 := bl_
  clear hb10 hb11 hb12 hb13
  go_wp2_with fail
  go_ret
  exact ⟨rfl, HB8.out.trans (hb13'.mono HB8.out.size)⟩
end Go.Proofs.YtafnebfchhmgcaaGreat
/- Library: comparison of two numbers; the first that is not 0. A module's charge in a current's direction. -/
namespace Go.Proofs.YtafnebfchhmgcaaGreat
open Go.RowKit Go.Sort Go.Shelf
set_option linter.unusedSimpArgs false
set_option linter.unusedVariables false
attribute [local go_sem] cell_if frozen_if grow_cell
/-- cmp.Compare on numbers. -/
def cmpI (x z : Int) : Int := if x < z then -1 else if z < x then 1 else 0
theorem isNaN_any (x : Int) (w : World) : Calls Tryz.prog 181 #[.int .i64 x] w fun e w' => e = .returned (.bool false) ∧ w = w' := by
  go_enter Tryz.func181, Tryz.ntmps181
  go_wp2
  go_ret
  exact ⟨by first | rfl | (simp; done), rfl⟩
set_option maxRecDepth 100000 in
theorem Compare_any (x z : Int) (w : World) : Calls Tryz.prog 157 #[.int .i64 x, .int .i64 z] w fun e w' => e = .returned (.int .i64 (cmpI x z)) ∧ w = w' := by
  have hm : IntKind.i64.wrap (-1) = -1 := by decide
  unfold cmpI
  by_cases h : x < z
  · rw [if_pos h]
    go_enter Tryz.func157, Tryz.ntmps157
    go_wp2_with fail
    refine (isNaN_any x w).mono ?_
    rintro e w1 ⟨rfl, rfl⟩
    go_wp2_with fail
    refine (isNaN_any z w).mono ?_
    rintro e w1 ⟨rfl, rfl⟩
    go_wp2_with fail
    go_ret
    exact ⟨rfl, rfl⟩
  · rw [if_neg h]
    by_cases h2 : z < x
    · rw [if_pos h2]
      go_enter Tryz.func157, Tryz.ntmps157
      go_wp2_with fail
      refine (isNaN_any x w).mono ?_
      rintro e w1 ⟨rfl, rfl⟩
      go_wp2_with fail
      refine (isNaN_any z w).mono ?_
      rintro e w1 ⟨rfl, rfl⟩
      go_wp2_with fail
      go_ret
      exact ⟨rfl, rfl⟩
    · rw [if_neg h2]
      go_enter Tryz.func157, Tryz.ntmps157
      go_wp2_with fail
      refine (isNaN_any x w).mono ?_
      rintro e w1 ⟨rfl, rfl⟩
      go_wp2_with fail
      refine (isNaN_any z w).mono ?_
      rintro e w1 ⟨rfl, rfl⟩
      go_wp2_with fail
      go_ret
      exact ⟨rfl, rfl⟩
def chgC (x z cu : Int) : Int := if cu < 0 then cmpI z x else cmpI x z
theorem charge_any (x z : Md) (cu : Int) (w : World) : Calls Tryz.prog 140 #[.agg #[.string x.n, .int .i64 x.q, .bool x.on, .bool x.by_], .agg #[.string z.n, .int .i64 z.q, .bool z.on, .bool z.by_], .int .i64 cu] w fun e w' => e = .returned (.int .i64 (chgC x.q z.q cu)) ∧ Below w.heap.size w w' := by
  have HC := fun x z W => Compare_any x z W
  unfold chgC
  by_cases h : cu < 0
  · rw [if_pos h]
    go_enter Tryz.func140, Tryz.ntmps140
    go_wp2_with fail
    refine (HC _ _ _).mono ?_
    rintro e w1 ⟨rfl, rfl⟩
    go_wp2_with fail
    go_ret
    exact ⟨rfl, bl_⟩
  · rw [if_neg h]
    go_enter Tryz.func140, Tryz.ntmps140
    go_wp2_with fail
    refine (HC _ _ _).mono ?_
    rintro e w1 ⟨rfl, rfl⟩
    go_wp2_with fail
    go_ret
    exact ⟨rfl, bl_⟩
def orL : List Int → Int
  | [] => 0
  | x :: r => if x = 0 then orL r else x
set_option maxHeartbeats 1000000 in
theorem cOr_any (B : Nat) (A : Option Addr) (n c : Nat) (l : List Int) (w : World) (hR : Reads w B 1 A n (l.map (.int .i64))) (hB : B ≤ w.heap.size) (hn : n ≤ 400) :
    Calls Tryz.prog 165 #[.slice A n c] w fun e w' => e = .returned (.int .i64 (orL l)) ∧ Below w.heap.size w w' := by
  obtain ⟨hl, hat⟩ := int_at hR
  have HL := Lib.hid hl
  have HA := Lib.hid hat
  clear hl hat hR
  go_enter Tryz.func165, Tryz.ntmps165
  go_wp2_with fail
  go_loopw [8] (fun i wr => ∃ k : Nat, k ≤ n ∧ i = .int .i64 k ∧ Hid (orL l = orL (l.drop k)) ∧ Below w.heap.size w wr) (fun i _ => n - (intOf i).toNat)
  case atStart => exact ⟨0, by omega, rfl, Lib.hid rfl, Below.refl _ _⟩
  case round =>
    obtain ⟨k, hk, rfl, hg, hb⟩ := hrel
    by_cases hlt : k < n
    · have hkl : k < l.length := by rw [HL.out]; omega
      obtain ⟨b, o, eA, hbb, z0⟩ := HA.out k hkl
      have kb : ∀ i, wr.cell? ⟨b, i, none⟩ = w.cell? ⟨b, i, none⟩ := fun i => hb.cell (p := ⟨b, i, none⟩) (by simp; omega)
      rw [← kb] at z0
      clear kb
      have hsr := hb.size
      have hbw : b < wr.heap.size := by omega
      have HD : Hid (orL (l.drop k) = if l[k] = 0 then orL (l.drop (k + 1)) else l[k]) := by
        rw [List.drop_eq_getElem_cons hkl]
        exact Lib.hid rfl
      subst eA
      generalize l[k] = x at *
      by_cases hq : x = 0
      · rw [if_pos hq] at HD
        subst hq
        go_wp2_with fail
        go_roundw
        case rel => exact ⟨k + 1, by omega, by go_num, by rw [hg.out, HD.out]; exact Lib.hid rfl, hb⟩
        case measure => simp [intOf]; omega
      · rw [if_neg hq] at HD
        have hne : (x != 0) = true := by simpa using hq
        go_wp2_with fail
        go_ret
        exact ⟨by rw [hg.out, HD.out]; rfl, hb⟩
    · obtain rfl : k = n := by omega
      go_wp2_with fail
      go_ret
      exact ⟨by rw [hg.out, List.drop_eq_nil_of_le (by rw [HL.out]; omega)]; rfl, hb⟩
end Go.Proofs.YtafnebfchhmgcaaGreat
