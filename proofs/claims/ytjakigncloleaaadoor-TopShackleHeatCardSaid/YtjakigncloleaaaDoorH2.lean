/- Contracts of harmonic: the arithmetic of the ring. -/
import Derived.Test.YtjakigncloleaaaDoorH1
import Derived.Test.YtjakigncloleaaaDoorB1
import Derived.Test.YtjakigncloleaaaDoorR2
namespace Go.Proofs.YtjakigncloleaaaDoor
open Go.RowKit Go.Sort
set_option linter.unusedSimpArgs false
set_option linter.unusedVariables false
attribute [local go_sem] cell_if frozen_if grow_cell
def eLe (a c : Int) : Int := wrap64 (a - c)
def eTA (a b c d : Int) : Int := wrap64 (wrap64 (a * c) - wrap64 (b * d))
def eTB (a b c d : Int) : Int := wrap64 (wrap64 (wrap64 (a * d) + wrap64 (b * c)) - wrap64 (b * d))
theorem hplus_any (a b c d : Int) (w : World) :
    Calls Tryd.prog 70 #[.agg #[.int .i64 a, .int .i64 b], .agg #[.int .i64 c, .int .i64 d]] w fun e w' => e = .returned (.agg #[.int .i64 (ePA a c), .int .i64 (ePA b d)]) ∧ Below w.heap.size w w' := by
  go_enter Tryd.func70, Tryd.ntmps70
  go_wp2
  exact bodyPost_ret (by first | (simp [results, Tryd.results70, go_sem, *]; done) | (simp [results, Tryd.results70, go_sem, *, ↓IntWalk.iteOmega]; done) | (simp [results, Tryd.results70, go_sem, *]; (repeat' apply And.intro) <;> rfl) | (simp [results, Tryd.results70, go_sem, *, ↓IntWalk.iteOmega]; (repeat' apply And.intro) <;> rfl)) rfl ⟨rfl, (by repeat (first | (with_reducible exact Below.refl _ _) | (with_reducible assumption) | ((with_reducible refine Below.alloc ?_ ?_ _); rotate_left; (· first | (simp; done) | (simp; omega) | omega)) | ((with_reducible refine Below.setCell ?_ ?_ _); rotate_left; (· first | (simp; done) | (simp; omega) | omega)) | (with_reducible apply Below.drew) | ((with_reducible apply below_step); (· with_reducible assumption); rotate_left; (· first | (simp; done) | (simp; omega) | omega))))⟩
theorem hless_any (a b c d : Int) (w : World) :
    Calls Tryd.prog 83 #[.agg #[.int .i64 a, .int .i64 b], .agg #[.int .i64 c, .int .i64 d]] w fun e w' => e = .returned (.agg #[.int .i64 (eLe a c), .int .i64 (eLe b d)]) ∧ Below w.heap.size w w' := by
  go_enter Tryd.func83, Tryd.ntmps83
  go_wp2
  exact bodyPost_ret (by first | (simp [results, Tryd.results83, go_sem, *]; done) | (simp [results, Tryd.results83, go_sem, *, ↓IntWalk.iteOmega]; done) | (simp [results, Tryd.results83, go_sem, *]; (repeat' apply And.intro) <;> rfl) | (simp [results, Tryd.results83, go_sem, *, ↓IntWalk.iteOmega]; (repeat' apply And.intro) <;> rfl)) rfl ⟨rfl, (by repeat (first | (with_reducible exact Below.refl _ _) | (with_reducible assumption) | ((with_reducible refine Below.alloc ?_ ?_ _); rotate_left; (· first | (simp; done) | (simp; omega) | omega)) | ((with_reducible refine Below.setCell ?_ ?_ _); rotate_left; (· first | (simp; done) | (simp; omega) | omega)) | (with_reducible apply Below.drew) | ((with_reducible apply below_step); (· with_reducible assumption); rotate_left; (· first | (simp; done) | (simp; omega) | omega))))⟩
theorem htimes_any (a b c d : Int) (w : World) :
    Calls Tryd.prog 71 #[.agg #[.int .i64 a, .int .i64 b], .agg #[.int .i64 c, .int .i64 d]] w fun e w' => e = .returned (.agg #[.int .i64 (eTA a b c d), .int .i64 (eTB a b c d)]) ∧ Below w.heap.size w w' := by
  go_enter Tryd.func71, Tryd.ntmps71
  go_wp2
  exact bodyPost_ret (by first | (simp [results, Tryd.results71, go_sem, *]; done) | (simp [results, Tryd.results71, go_sem, *, ↓IntWalk.iteOmega]; done) | (simp [results, Tryd.results71, go_sem, *]; (repeat' apply And.intro) <;> rfl) | (simp [results, Tryd.results71, go_sem, *, ↓IntWalk.iteOmega]; (repeat' apply And.intro) <;> rfl)) rfl ⟨rfl, (by repeat (first | (with_reducible exact Below.refl _ _) | (with_reducible assumption) | ((with_reducible refine Below.alloc ?_ ?_ _); rotate_left; (· first | (simp; done) | (simp; omega) | omega)) | ((with_reducible refine Below.setCell ?_ ?_ _); rotate_left; (· first | (simp; done) | (simp; omega) | omega)) | (with_reducible apply Below.drew) | ((with_reducible apply below_step); (· with_reducible assumption); rotate_left; (· first | (simp; done) | (simp; omega) | omega))))⟩
theorem hbar_any (a b : Int) (w : World) :
    Calls Tryd.prog 72 #[.agg #[.int .i64 a, .int .i64 b]] w fun e w' => e = .returned (.agg #[.int .i64 (eCA a b), .int .i64 (eCB b)]) ∧ Below w.heap.size w w' := by
  go_enter Tryd.func72, Tryd.ntmps72
  go_wp2
  exact bodyPost_ret (by first | (simp [results, Tryd.results72, go_sem, *]; done) | (simp [results, Tryd.results72, go_sem, *, ↓IntWalk.iteOmega]; done) | (simp [results, Tryd.results72, go_sem, *]; (repeat' apply And.intro) <;> rfl) | (simp [results, Tryd.results72, go_sem, *, ↓IntWalk.iteOmega]; (repeat' apply And.intro) <;> rfl)) rfl ⟨rfl, (by repeat (first | (with_reducible exact Below.refl _ _) | (with_reducible assumption) | ((with_reducible refine Below.alloc ?_ ?_ _); rotate_left; (· first | (simp; done) | (simp; omega) | omega)) | ((with_reducible refine Below.setCell ?_ ?_ _); rotate_left; (· first | (simp; done) | (simp; omega) | omega)) | (with_reducible apply Below.drew) | ((with_reducible apply below_step); (· with_reducible assumption); rotate_left; (· first | (simp; done) | (simp; omega) | omega))))⟩
/-- A number of the ring: four integers. -/
structure Cy where
  a : Int
  b : Int
  c : Int
  d : Int

def cyP (x y : Cy) : Cy := ⟨ePA x.a y.a, ePA x.b y.b, ePA x.c y.c, ePA x.d y.d⟩
def cyT (x y : Cy) : Cy := ⟨eLe (eTA x.a x.b y.a y.b) (eTA x.c x.d y.c y.d), eLe (eTB x.a x.b y.a y.b) (eTB x.c x.d y.c y.d), ePA (eTA x.a x.b y.c y.d) (eTA x.c x.d y.a y.b), ePA (eTB x.a x.b y.c y.d) (eTB x.c x.d y.a y.b)⟩
def cyQ (x : Cy) : Cy := ⟨wrap64 (-x.c), wrap64 (-x.d), x.a, x.b⟩
def stA (x : Cy) : Int := ePA (eTA x.a x.b (eCA x.a x.b) (eCB x.b)) (eTA x.c x.d (eCA x.c x.d) (eCB x.d))
def stB (x : Cy) : Int := wrap64 (-(eTB x.c x.d (eCA x.a x.b) (eCB x.b)))
set_option maxHeartbeats 1000000 in
theorem cplus_any (x y : Cy) (w : World) :
    Calls Tryd.prog 68 #[.agg #[.int .i64 x.a, .int .i64 x.b, .int .i64 x.c, .int .i64 x.d], .agg #[.int .i64 y.a, .int .i64 y.b, .int .i64 y.c, .int .i64 y.d]] w fun e w' => e = .returned (.agg #[.int .i64 (cyP x y).a, .int .i64 (cyP x y).b, .int .i64 (cyP x y).c, .int .i64 (cyP x y).d]) ∧ Below w.heap.size w w' := by
  go_enter Tryd.func68, Tryd.ntmps68
  go_wp2_with fail
  (refine wp_region_head_below 11 (by kernel_rfl) (by kernel_rfl) ?_; simp only [List.take_succ_cons, List.take_zero, List.drop_succ_cons, List.drop_zero]; (repeat (go_big_quiet_step (exact Calls.regrown_of (hplus_any _ _ _ _ _)))); refine wpQuiet_nil ?_)
  intro w1 hb1
  obtain ⟨hc1, hf1⟩ := ifs_of hb1; have hs1 := hb1.size; (try simp at hs1)
  go_wp2
  exact bodyPost_ret (by first | (simp [results, Tryd.results68, go_sem, *]; done) | (simp [results, Tryd.results68, go_sem, *, ↓IntWalk.iteOmega]; done) | (simp [results, Tryd.results68, go_sem, *]; (repeat' apply And.intro) <;> rfl) | (simp [results, Tryd.results68, go_sem, *, ↓IntWalk.iteOmega]; (repeat' apply And.intro) <;> rfl)) rfl ⟨rfl, (by repeat (first | (with_reducible exact Below.refl _ _) | (with_reducible assumption) | ((with_reducible refine Below.alloc ?_ ?_ _); rotate_left; (· first | (simp; done) | (simp; omega) | omega)) | ((with_reducible refine Below.setCell ?_ ?_ _); rotate_left; (· first | (simp; done) | (simp; omega) | omega)) | (with_reducible apply Below.drew) | ((with_reducible apply below_step); (· with_reducible assumption); rotate_left; (· first | (simp; done) | (simp; omega) | omega))))⟩
set_option maxHeartbeats 1000000 in
theorem ctimes_any (x y : Cy) (w : World) :
    Calls Tryd.prog 81 #[.agg #[.int .i64 x.a, .int .i64 x.b, .int .i64 x.c, .int .i64 x.d], .agg #[.int .i64 y.a, .int .i64 y.b, .int .i64 y.c, .int .i64 y.d]] w fun e w' => e = .returned (.agg #[.int .i64 (cyT x y).a, .int .i64 (cyT x y).b, .int .i64 (cyT x y).c, .int .i64 (cyT x y).d]) ∧ Below w.heap.size w w' := by
  go_enter Tryd.func81, Tryd.ntmps81
  go_wp2_with fail
  (refine wp_region_head_below 23 (by kernel_rfl) (by kernel_rfl) ?_; simp only [List.take_succ_cons, List.take_zero, List.drop_succ_cons, List.drop_zero]; (repeat (go_big_quiet_step (first | exact Calls.regrown_of (htimes_any _ _ _ _ _) | exact Calls.regrown_of (hplus_any _ _ _ _ _) | exact Calls.regrown_of (hless_any _ _ _ _ _)))); refine wpQuiet_nil ?_)
  intro w1 hb1
  obtain ⟨hc1, hf1⟩ := ifs_of hb1; have hs1 := hb1.size; (try simp at hs1)
  go_wp2
  exact bodyPost_ret (by first | (simp [results, Tryd.results81, go_sem, *]; done) | (simp [results, Tryd.results81, go_sem, *, ↓IntWalk.iteOmega]; done) | (simp [results, Tryd.results81, go_sem, *]; (repeat' apply And.intro) <;> rfl) | (simp [results, Tryd.results81, go_sem, *, ↓IntWalk.iteOmega]; (repeat' apply And.intro) <;> rfl)) rfl ⟨rfl, (by repeat (first | (with_reducible exact Below.refl _ _) | (with_reducible assumption) | ((with_reducible refine Below.alloc ?_ ?_ _); rotate_left; (· first | (simp; done) | (simp; omega) | omega)) | ((with_reducible refine Below.setCell ?_ ?_ _); rotate_left; (· first | (simp; done) | (simp; omega) | omega)) | (with_reducible apply Below.drew) | ((with_reducible apply below_step); (· with_reducible assumption); rotate_left; (· first | (simp; done) | (simp; omega) | omega))))⟩
theorem quarter_any (x : Cy) (w : World) :
    Calls Tryd.prog 82 #[.agg #[.int .i64 x.a, .int .i64 x.b, .int .i64 x.c, .int .i64 x.d]] w fun e w' => e = .returned (.agg #[.int .i64 (cyQ x).a, .int .i64 (cyQ x).b, .int .i64 (cyQ x).c, .int .i64 (cyQ x).d]) ∧ Below w.heap.size w w' := by
  go_enter Tryd.func82, Tryd.ntmps82
  go_wp2
  exact bodyPost_ret (by first | (simp [results, Tryd.results82, go_sem, *]; done) | (simp [results, Tryd.results82, go_sem, *, ↓IntWalk.iteOmega]; done) | (simp [results, Tryd.results82, go_sem, *]; (repeat' apply And.intro) <;> rfl) | (simp [results, Tryd.results82, go_sem, *, ↓IntWalk.iteOmega]; (repeat' apply And.intro) <;> rfl)) rfl ⟨rfl, (by repeat (first | (with_reducible exact Below.refl _ _) | (with_reducible assumption) | ((with_reducible refine Below.alloc ?_ ?_ _); rotate_left; (· first | (simp; done) | (simp; omega) | omega)) | ((with_reducible refine Below.setCell ?_ ?_ _); rotate_left; (· first | (simp; done) | (simp; omega) | omega)) | (with_reducible apply Below.drew) | ((with_reducible apply below_step); (· with_reducible assumption); rotate_left; (· first | (simp; done) | (simp; omega) | omega))))⟩
set_option maxRecDepth 100000 in
set_option maxHeartbeats 1000000 in
theorem strength_any (x : Cy) (w : World) :
    Calls Tryd.prog 53 #[.agg #[.int .i64 x.a, .int .i64 x.b, .int .i64 x.c, .int .i64 x.d]] w fun e w' => e = .returned (.agg #[.int .i64 (stA x), .int .i64 (stB x)]) ∧ Below w.heap.size w w' := by
  go_enter Tryd.func53, Tryd.ntmps53
  go_wp2_with fail
  (refine wp_region_calm [] [0, 1, 2, 3, 4, 5, 6, 7, 8, 9, 10, 11, 12] 2 (by kernel_rfl) rfl (by kernel_rfl) (by kernel_rfl) (by kernel_rfl) ?_; simp only [pickB, List.filterMap_cons, List.filterMap_nil, List.getElem?_toArray, List.getElem?_cons_zero, List.getElem?_cons_succ]; (repeat (refine quietL_plain rfl (fun K hK => ?_); (apply Exists.intro; refine ⟨fun wx hx => ?_, ?_⟩; (· (have hcx := ifs_ex hx); simp [go_sem, *, ↓IntWalk.iteOmega] <;> (first | rfl | exact ⟨rfl, rfl⟩ | first | exact calls_B (hbar_any _ _ _) | exact calls_B (htimes_any _ _ _ _ _) | exact calls_B (hplus_any _ _ _ _ _))); (simp only [Act.put, List.setIfInBounds_toArray, List.set_cons_zero, List.set_cons_succ]; refine hK _ ?_; clear hK K)))); refine quietL_nil ?_)
  (refine anyB_one (i := 13) (by kernel_rfl) rfl rfl ?_; intro w1 hb1 K hK; obtain ⟨hc1, hf1⟩ := ifs_of hb1; have hs1 := hb1.size; (try simp at hs1); go_wp2; refine ⟨(by repeat (first | (with_reducible exact Ex.refl _ _) | (with_reducible assumption) | (with_reducible refine Ex.alloc ?_ _) | ((with_reducible refine Ex.set_in ?_ ?_ _); (· first | (left; simp; done) | (right; simp; done) | (right; simp; omega) | (right; omega))) | ((with_reducible apply Ex.step); (· with_reducible assumption)))), ?_⟩)
  (refine anyB_one (i := 14) (by kernel_rfl) rfl rfl ?_; intro w2 hb2 K hK; obtain ⟨hc2, hf2⟩ := ifs_of hb2; have hs2 := hb2.size; (try simp at hs2); go_wp2; refine ⟨(by repeat (first | (with_reducible exact Ex.refl _ _) | (with_reducible assumption) | (with_reducible refine Ex.alloc ?_ _) | ((with_reducible refine Ex.set_in ?_ ?_ _); (· first | (left; simp; done) | (right; simp; done) | (right; simp; omega) | (right; omega))) | ((with_reducible apply Ex.step); (· with_reducible assumption)))), ?_⟩)
  (refine anyB_end (by kernel_rfl) ?_; intro w3 hb3; obtain ⟨hc3, hf3⟩ := ifs_of hb3; have hs3 := hb3.size; (try simp at hs3); simp only [Calm])
  have z0 : w.heap.size < w3.heap.size := by omega
  have z1 : w.heap.size + 1 < w3.heap.size := by omega
  have z2 : w1.heap.size < w3.heap.size := by omega
  go_wp2_with fail
  (refine wp_region_calm [w.heap.size + 1] [0, 1, 2, 3, 4, 5, 6, 7, 8, 9, 10] 1 (by kernel_rfl) rfl (by kernel_rfl) (by kernel_rfl) (by kernel_rfl) ?_; simp only [pickB, List.filterMap_cons, List.filterMap_nil, List.getElem?_toArray, List.getElem?_cons_zero, List.getElem?_cons_succ]; (repeat (refine quietL_plain rfl (fun K hK => ?_); (apply Exists.intro; refine ⟨fun wx hx => ?_, ?_⟩; (· (have hcx := ifs_ex hx); simp [go_sem, *, ↓IntWalk.iteOmega] <;> (first | rfl | exact ⟨rfl, rfl⟩ | first | exact calls_B (hbar_any _ _ _) | exact calls_B (htimes_any _ _ _ _ _))); (simp only [Act.put, List.setIfInBounds_toArray, List.set_cons_zero, List.set_cons_succ]; refine hK _ ?_; clear hK K)))); refine quietL_nil ?_)
  (refine anyB_one (i := 11) (by kernel_rfl) rfl rfl ?_; intro w4 hb4 K hK; obtain ⟨hc4, hf4⟩ := ifs_of hb4; have hs4 := hb4.size; (try simp at hs4); go_wp2; refine ⟨(by repeat (first | (with_reducible exact Ex.refl _ _) | (with_reducible assumption) | (with_reducible refine Ex.alloc ?_ _) | ((with_reducible refine Ex.set_in ?_ ?_ _); (· first | (left; simp; done) | (right; simp; done) | (right; simp; omega) | (right; omega))) | ((with_reducible apply Ex.step); (· with_reducible assumption)))), ?_⟩)
  (refine anyB_end (by kernel_rfl) ?_; intro w5 hb5; obtain ⟨hc5, hf5⟩ := ifs_of hb5; have hs5 := hb5.size; (try simp at hs5); simp only [Calm])
  go_wp2
  exact bodyPost_ret (by first | (simp [results, Tryd.results53, go_sem, *]; done) | (simp [results, Tryd.results53, go_sem, *, ↓IntWalk.iteOmega]; done) | (simp [results, Tryd.results53, go_sem, *]; (repeat' apply And.intro) <;> rfl) | (simp [results, Tryd.results53, go_sem, *, ↓IntWalk.iteOmega]; (repeat' apply And.intro) <;> rfl)) rfl ⟨rfl, (by repeat (first | (with_reducible exact Below.refl _ _) | (with_reducible assumption) | ((with_reducible refine Below.alloc ?_ ?_ _); rotate_left; (· first | (simp; done) | (simp; omega) | omega)) | ((with_reducible refine Below.setCell ?_ ?_ _); rotate_left; (· first | (simp; done) | (simp; omega) | omega)) | (with_reducible apply Below.drew) | ((with_reducible apply below_step); (· with_reducible assumption); rotate_left; (· first | (simp; done) | (simp; omega) | omega))))⟩
end Go.Proofs.YtjakigncloleaaaDoor
