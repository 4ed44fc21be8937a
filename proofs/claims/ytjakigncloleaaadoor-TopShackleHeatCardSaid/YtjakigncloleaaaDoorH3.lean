/- Contracts of harmonic: turned. -/
import Derived.Test.YtjakigncloleaaaDoorH2
namespace Go.Proofs.YtjakigncloleaaaDoor
open Go.RowKit Go.Sort
set_option linter.unusedSimpArgs false
set_option linter.unusedVariables false
attribute [local go_sem] cell_if frozen_if grow_cell
theorem blk_four {w : World} {g : Nat} {t : TypeId} {p q r s x y z u : Value} (h : Blk w g t #[p, q, r, s]) : Blk ((((w.setCell ⟨g, 0, none⟩ x).setCell ⟨g, 1, none⟩ y).setCell ⟨g, 2, none⟩ z).setCell ⟨g, 3, none⟩ u) g t #[x, y, z, u] := (((h.set_ 0 x).set_ 1 y).set_ 2 z).set_ 3 u
/-- The powers of the root lie where the program's text lays them. -/
structure Powers (w : World) : Prop where
  c0 : w.cell? ⟨2, 0, none⟩ = some (.int .i64 1)
  c1 : w.cell? ⟨2, 1, none⟩ = some (.int .i64 0)
  c2 : w.cell? ⟨2, 2, none⟩ = some (.int .i64 0)
  c3 : w.cell? ⟨2, 3, none⟩ = some (.int .i64 0)
  c4 : w.cell? ⟨2, 4, none⟩ = some (.int .i64 0)
  c5 : w.cell? ⟨2, 5, none⟩ = some (.int .i64 0)
  c6 : w.cell? ⟨2, 6, none⟩ = some (.int .i64 0)
  c7 : w.cell? ⟨2, 7, none⟩ = some (.int .i64 (-1))
  c8 : w.cell? ⟨2, 8, none⟩ = some (.int .i64 1)
  c9 : w.cell? ⟨2, 9, none⟩ = some (.int .i64 1)
  c10 : w.cell? ⟨2, 10, none⟩ = some (.int .i64 0)
  c11 : w.cell? ⟨2, 11, none⟩ = some (.int .i64 0)
  lt : 2 < w.heap.size
theorem Powers.below {w w' : World} {B : Nat} (h : Powers w) (hB : 2 < B) (hb : Below B w w') (hs : w.heap.size ≤ w'.heap.size) : Powers w' := by
  have k : ∀ o, w'.cell? ⟨2, o, none⟩ = w.cell? ⟨2, o, none⟩ := fun o => hb.cell (p := ⟨_, o, none⟩) hB
  exact ⟨(k _).trans h.c0, (k _).trans h.c1, (k _).trans h.c2, (k _).trans h.c3, (k _).trans h.c4, (k _).trans h.c5, (k _).trans h.c6, (k _).trans h.c7, (k _).trans h.c8, (k _).trans h.c9, (k _).trans h.c10, (k _).trans h.c11, Nat.lt_of_lt_of_le h.lt hs⟩
theorem Powers.kept {w w' : World} (h : Powers w) (hb : Below w.heap.size w w') : Powers w' := h.below h.lt hb hb.size
def unitP : Nat → Cy
  | 0 => ⟨1, 0, 0, 0⟩
  | 1 => ⟨0, 0, 0, -1⟩
  | _ => ⟨1, 1, 0, 0⟩
def cyQn : Nat → Cy → Cy
  | 0, x => x
  | n + 1, x => cyQ (cyQn n x)
def tw12 (s : Int) : Nat := ((s.tmod 12 + 12) % 12).toNat
theorem tmod12 (s : Int) : -11 ≤ s.tmod 12 ∧ s.tmod 12 ≤ 11 := by
  have h1 := Int.tmod_lt_of_pos s (b := 12) (by omega)
  have h2 := Int.neg_tmod s 12
  have h3 := Int.tmod_lt_of_pos (-s) (b := 12) (by omega)
  omega
def tuC (x : Cy) (s : Int) : Cy := cyQn (tw12 s / 3) (cyT x (unitP (tw12 s % 3)))
set_option maxRecDepth 100000 in
set_option maxHeartbeats 1000000 in
theorem turnC_any (x : Cy) (s : Int) (w : World) (hP : Powers w) :
    Calls Tryd.prog 79 #[.agg #[.int .i64 x.a, .int .i64 x.b, .int .i64 x.c, .int .i64 x.d], .int .i64 s] w fun e w' => e = .returned (.agg #[.int .i64 (tuC x s).a, .int .i64 (tuC x s).b, .int .i64 (tuC x s).c, .int .i64 (tuC x s).d]) ∧ Below w.heap.size w w' := by
  obtain ⟨hm1, hm2⟩ := tmod12 s
  obtain ⟨m, hm⟩ : ∃ m : Nat, tw12 s = m := ⟨_, rfl⟩
  have hE : (s.tmod 12 + 12) % 12 = (m : Int) := by rw [← hm]; unfold tw12; omega
  have hml : m < 12 := by omega
  obtain ⟨q, hq⟩ : ∃ q : Nat, m / 3 = q := ⟨_, rfl⟩
  have hq3 : (m : Int) / 3 = (q : Int) := by omega
  have HT : Hid (tuC x s = cyQn q (cyT x (unitP (m % 3)))) := by show _ = _; unfold tuC; rw [hm, hq]
  have hq4 : q < 4 := by omega
  clear hm hq
  obtain ⟨c0, c1, c2, c3, c4, c5, c6, c7, c8, c9, c10, c11, lt⟩ := hP
  have hr : m % 3 = 0 ∨ m % 3 = 1 ∨ m % 3 = 2 := by omega
  rcases hr with hr | hr | hr
  · have HR := Lib.hid hr
    have hm3 : (m : Int) = 3 * (q : Int) := by omega
    have hx1 : (3 * (q : Int)).tmod 3 = 0 := by rw [Int.tmod_eq_emod_of_nonneg (by omega)]; omega
    have hx2 : (3 * (q : Int)).tdiv 3 = (q : Int) := by rw [Int.tdiv_eq_ediv_of_nonneg (by omega)]; omega
    have hx3 : (3 * (q : Int)) % 3 = 0 := by omega
    have hx4 : (3 * (q : Int)) / 3 = (q : Int) := by omega
    clear hr
    go_enter Tryd.func79, Tryd.ntmps79
    go_wp2
    (refine wp_region_calm [] [0, 1, 2, 3, 4, 5] 2 (by kernel_rfl) rfl (by kernel_rfl) (by kernel_rfl) (by kernel_rfl) ?_; simp only [pickB, List.filterMap_cons, List.filterMap_nil, List.getElem?_toArray, List.getElem?_cons_zero, List.getElem?_cons_succ]; (repeat (refine quietL_plain rfl (fun K hK => ?_); (apply Exists.intro; refine ⟨fun wx hx => ?_, ?_⟩; (· (have hcx := ifs_ex hx); simp [go_sem, *, ↓IntWalk.iteOmega] <;> (first | rfl | exact ⟨rfl, rfl⟩ | exact calls_B (ctimes_any _ (unitP 0) _))); (simp only [Act.put, List.setIfInBounds_toArray, List.set_cons_zero, List.set_cons_succ]; refine hK _ ?_; clear hK K)))); refine quietL_nil ?_)
    (refine anyB_one (i := 6) (by kernel_rfl) rfl rfl ?_; intro w1 hb1 K hK; obtain ⟨hc1, hf1⟩ := ifs_of hb1; have hs1 := hb1.size; (try simp at hs1); go_wp2; refine ⟨(by repeat (first | (with_reducible exact Ex.refl _ _) | (with_reducible assumption) | (with_reducible refine Ex.alloc ?_ _) | ((with_reducible refine Ex.set_in ?_ ?_ _); (· first | (left; simp; done) | (right; simp; done) | (right; simp; omega) | (right; omega))) | ((with_reducible apply Ex.step); (· with_reducible assumption)))), ?_⟩)
    (refine anyB_one (i := 7) (by kernel_rfl) rfl rfl ?_; intro w2 hb2 K hK; obtain ⟨hc2, hf2⟩ := ifs_of hb2; have hs2 := hb2.size; (try simp at hs2); go_wp2; refine ⟨(by repeat (first | (with_reducible exact Ex.refl _ _) | (with_reducible assumption) | (with_reducible refine Ex.alloc ?_ _) | ((with_reducible refine Ex.set_in ?_ ?_ _); (· first | (left; simp; done) | (right; simp; done) | (right; simp; omega) | (right; omega))) | ((with_reducible apply Ex.step); (· with_reducible assumption)))), ?_⟩)
    (refine anyB_end (by kernel_rfl) ?_; intro w3 hb3; obtain ⟨hc3, hf3⟩ := ifs_of hb3; have hs3 := hb3.size; (try simp at hs3); simp only [Calm])
    have HM := Lib.hid hm3
    clear hm3
    go_wp2
    try rw [hE]
    have HE := Lib.hid hE
    have HQ3 := Lib.hid hq3
    clear hE hq3 hx1 hx2 hx3 hx4
    have z1 : w1.heap.size < w3.heap.size := by omega
    have z0 : w.heap.size + 1 < w1.heap.size := by omega
    go_loopw [18] (fun i wr => ∃ k : Nat, k ≤ q ∧ i = .int .i64 k ∧ Blk wr w1.heap.size 55 #[.int .i64 (cyQn k (cyT x (unitP (m % 3)))).a, .int .i64 (cyQn k (cyT x (unitP (m % 3)))).b, .int .i64 (cyQn k (cyT x (unitP (m % 3)))).c, .int .i64 (cyQn k (cyT x (unitP (m % 3)))).d] ∧ Blk wr (w.heap.size + 1) 55 #[.int .i64 0, .int .i64 0, .int .i64 0, .int .i64 0] ∧ Below w.heap.size w wr) (fun i _ => q - (intOf i).toNat)
    case atStart => exact ⟨0, Nat.zero_le _, rfl, (by rw [HR.out]; show Blk _ _ _ #[.int .i64 (cyT x (unitP _)).a, .int .i64 (cyT x (unitP _)).b, .int .i64 (cyT x (unitP _)).c, .int .i64 (cyT x (unitP _)).d]; have hq4 := blk_four (w := w2) (x := .int .i64 (cyT x (unitP 0)).a) (y := .int .i64 (cyT x (unitP 0)).b) (z := .int .i64 (cyT x (unitP 0)).c) (u := .int .i64 (cyT x (unitP 0)).d) (show Blk w2 w1.heap.size 55 #[.int .i64 0, .int .i64 0, .int .i64 0, .int .i64 0] from (by repeat (first | (with_reducible assumption) | ((with_reducible apply Blk.new_at); (first | (simp; done) | (simp; omega))) | (with_reducible apply Blk.drew) | (with_reducible refine Blk.alloc ?_ _) | (with_reducible apply blk_two) | ((with_reducible refine blk_far ?_ ?_ _); (· first | (simp; done) | (simp; omega) | omega)) | ((with_reducible apply blk_kept); (· with_reducible assumption))))); exact (by repeat (first | (with_reducible assumption) | ((with_reducible apply Blk.new_at); (first | (simp; done) | (simp; omega))) | (with_reducible apply Blk.drew) | (with_reducible refine Blk.alloc ?_ _) | (with_reducible apply blk_two) | ((with_reducible refine blk_far ?_ ?_ _); (· first | (simp; done) | (simp; omega) | omega)) | ((with_reducible apply blk_kept); (· with_reducible assumption))))), (by repeat (first | (with_reducible assumption) | ((with_reducible apply Blk.new_at); (first | (simp; done) | (simp; omega))) | (with_reducible apply Blk.drew) | (with_reducible refine Blk.alloc ?_ _) | (with_reducible apply blk_two) | ((with_reducible refine blk_far ?_ ?_ _); (· first | (simp; done) | (simp; omega) | omega)) | ((with_reducible apply blk_kept); (· with_reducible assumption)))), (by repeat (first | (with_reducible exact Below.refl _ _) | (with_reducible assumption) | ((with_reducible refine Below.alloc ?_ ?_ _); rotate_left; (· first | (simp; done) | (simp; omega) | omega)) | ((with_reducible refine Below.setCell ?_ ?_ _); rotate_left; (· first | (simp; done) | (simp; omega) | omega)) | (with_reducible apply Below.drew) | ((with_reducible apply below_step); (· with_reducible assumption); rotate_left; (· first | (simp; done) | (simp; omega) | omega))))⟩
    case round =>
      obtain ⟨k, hk, rfl, hB, hR, hb⟩ := hrel
      have hne : w.heap.size + 1 < w1.heap.size := by omega
      have hE2 : Hid (cyQn (k + 1) (cyT x (unitP (m % 3))) = cyQ (cyQn k (cyT x (unitP (m % 3))))) := rfl
      have zb := hB.lt
      have HB := Lib.hid hB
      have HR2 := Lib.hid hR
      generalize hp : cyQn k (cyT x (unitP (m % 3))) = p at *
      have HP := Lib.hid hp
      clear hp
      have vv := hB.cell
      have rr := hR.cell
      have fv := hB.frozen
      have fr := hR.frozen
      clear hB hR
      by_cases hlt : k < q
      · go_wp2_with (go_at_call 82; refine (quarter_any _ _).mono ?_; rintro e w4 ⟨rfl, hb4⟩; obtain ⟨hc4, hf4⟩ := ifs_of hb4; have hs4 := hb4.size; (try simp at hs4))
        go_roundw
        case rel => exact ⟨k + 1, by omega, by go_num, by rw [hE2.out]; exact ((((HB.out.kept hb4).set_ 0 _).set_ 1 _).set_ 2 _).set_ 3 _, ((((HR2.out.kept hb4).far (by first | (simp; done) | (simp; omega)) _).far (by first | (simp; done) | (simp; omega)) _).far (by first | (simp; done) | (simp; omega)) _).far (by first | (simp; done) | (simp; omega)) _, (by repeat (first | (with_reducible exact Below.refl _ _) | (with_reducible assumption) | ((with_reducible refine Below.alloc ?_ ?_ _); rotate_left; (· first | (simp; done) | (simp; omega) | omega)) | ((with_reducible refine Below.setCell ?_ ?_ _); rotate_left; (· first | (simp; done) | (simp; omega) | omega)) | (with_reducible apply Below.drew) | ((with_reducible apply below_step); (· with_reducible assumption); rotate_left; (· first | (simp; done) | (simp; omega) | omega))))⟩
        case measure => simp [intOf]; omega
      · obtain rfl : k = q := by omega
        go_wp2
        exact bodyPost_ret (v := .agg #[.int .i64 p.a, .int .i64 p.b, .int .i64 p.c, .int .i64 p.d]) (by first | (simp [results, Tryd.results79, go_sem, *]; done) | (simp [results, Tryd.results79, go_sem, *, ↓IntWalk.iteOmega]; done)) rfl ⟨by rw [HT.out, HP.out], (by repeat (first | (with_reducible exact Below.refl _ _) | (with_reducible assumption) | ((with_reducible refine Below.alloc ?_ ?_ _); rotate_left; (· first | (simp; done) | (simp; omega) | omega)) | ((with_reducible refine Below.setCell ?_ ?_ _); rotate_left; (· first | (simp; done) | (simp; omega) | omega)) | (with_reducible apply Below.drew) | ((with_reducible apply below_step); (· with_reducible assumption); rotate_left; (· first | (simp; done) | (simp; omega) | omega))))⟩
  · have HR := Lib.hid hr
    have hm3 : (m : Int) = 3 * (q : Int) + 1 := by omega
    have hx1 : (3 * (q : Int) + 1).tmod 3 = 1 := by rw [Int.tmod_eq_emod_of_nonneg (by omega)]; omega
    have hx2 : (3 * (q : Int) + 1).tdiv 3 = (q : Int) := by rw [Int.tdiv_eq_ediv_of_nonneg (by omega)]; omega
    have hx3 : (3 * (q : Int) + 1) % 3 = 1 := by omega
    have hx4 : (3 * (q : Int) + 1) / 3 = (q : Int) := by omega
    clear hr
    go_enter Tryd.func79, Tryd.ntmps79
    go_wp2
    (refine wp_region_calm [] [0, 1, 2, 3, 4, 5] 2 (by kernel_rfl) rfl (by kernel_rfl) (by kernel_rfl) (by kernel_rfl) ?_; simp only [pickB, List.filterMap_cons, List.filterMap_nil, List.getElem?_toArray, List.getElem?_cons_zero, List.getElem?_cons_succ]; (repeat (refine quietL_plain rfl (fun K hK => ?_); (apply Exists.intro; refine ⟨fun wx hx => ?_, ?_⟩; (· (have hcx := ifs_ex hx); simp [go_sem, *, ↓IntWalk.iteOmega] <;> (first | rfl | exact ⟨rfl, rfl⟩ | exact calls_B (ctimes_any _ (unitP 1) _))); (simp only [Act.put, List.setIfInBounds_toArray, List.set_cons_zero, List.set_cons_succ]; refine hK _ ?_; clear hK K)))); refine quietL_nil ?_)
    (refine anyB_one (i := 6) (by kernel_rfl) rfl rfl ?_; intro w1 hb1 K hK; obtain ⟨hc1, hf1⟩ := ifs_of hb1; have hs1 := hb1.size; (try simp at hs1); go_wp2; refine ⟨(by repeat (first | (with_reducible exact Ex.refl _ _) | (with_reducible assumption) | (with_reducible refine Ex.alloc ?_ _) | ((with_reducible refine Ex.set_in ?_ ?_ _); (· first | (left; simp; done) | (right; simp; done) | (right; simp; omega) | (right; omega))) | ((with_reducible apply Ex.step); (· with_reducible assumption)))), ?_⟩)
    (refine anyB_one (i := 7) (by kernel_rfl) rfl rfl ?_; intro w2 hb2 K hK; obtain ⟨hc2, hf2⟩ := ifs_of hb2; have hs2 := hb2.size; (try simp at hs2); go_wp2; refine ⟨(by repeat (first | (with_reducible exact Ex.refl _ _) | (with_reducible assumption) | (with_reducible refine Ex.alloc ?_ _) | ((with_reducible refine Ex.set_in ?_ ?_ _); (· first | (left; simp; done) | (right; simp; done) | (right; simp; omega) | (right; omega))) | ((with_reducible apply Ex.step); (· with_reducible assumption)))), ?_⟩)
    (refine anyB_end (by kernel_rfl) ?_; intro w3 hb3; obtain ⟨hc3, hf3⟩ := ifs_of hb3; have hs3 := hb3.size; (try simp at hs3); simp only [Calm])
    have HM := Lib.hid hm3
    clear hm3
    go_wp2
    try rw [hE]
    have HE := Lib.hid hE
    have HQ3 := Lib.hid hq3
    clear hE hq3 hx1 hx2 hx3 hx4
    have z1 : w1.heap.size < w3.heap.size := by omega
    have z0 : w.heap.size + 1 < w1.heap.size := by omega
    go_loopw [18] (fun i wr => ∃ k : Nat, k ≤ q ∧ i = .int .i64 k ∧ Blk wr w1.heap.size 55 #[.int .i64 (cyQn k (cyT x (unitP (m % 3)))).a, .int .i64 (cyQn k (cyT x (unitP (m % 3)))).b, .int .i64 (cyQn k (cyT x (unitP (m % 3)))).c, .int .i64 (cyQn k (cyT x (unitP (m % 3)))).d] ∧ Blk wr (w.heap.size + 1) 55 #[.int .i64 0, .int .i64 0, .int .i64 0, .int .i64 0] ∧ Below w.heap.size w wr) (fun i _ => q - (intOf i).toNat)
    case atStart => exact ⟨0, Nat.zero_le _, rfl, (by rw [HR.out]; show Blk _ _ _ #[.int .i64 (cyT x (unitP _)).a, .int .i64 (cyT x (unitP _)).b, .int .i64 (cyT x (unitP _)).c, .int .i64 (cyT x (unitP _)).d]; have hq4 := blk_four (w := w2) (x := .int .i64 (cyT x (unitP 1)).a) (y := .int .i64 (cyT x (unitP 1)).b) (z := .int .i64 (cyT x (unitP 1)).c) (u := .int .i64 (cyT x (unitP 1)).d) (show Blk w2 w1.heap.size 55 #[.int .i64 0, .int .i64 0, .int .i64 0, .int .i64 0] from (by repeat (first | (with_reducible assumption) | ((with_reducible apply Blk.new_at); (first | (simp; done) | (simp; omega))) | (with_reducible apply Blk.drew) | (with_reducible refine Blk.alloc ?_ _) | (with_reducible apply blk_two) | ((with_reducible refine blk_far ?_ ?_ _); (· first | (simp; done) | (simp; omega) | omega)) | ((with_reducible apply blk_kept); (· with_reducible assumption))))); exact (by repeat (first | (with_reducible assumption) | ((with_reducible apply Blk.new_at); (first | (simp; done) | (simp; omega))) | (with_reducible apply Blk.drew) | (with_reducible refine Blk.alloc ?_ _) | (with_reducible apply blk_two) | ((with_reducible refine blk_far ?_ ?_ _); (· first | (simp; done) | (simp; omega) | omega)) | ((with_reducible apply blk_kept); (· with_reducible assumption))))), (by repeat (first | (with_reducible assumption) | ((with_reducible apply Blk.new_at); (first | (simp; done) | (simp; omega))) | (with_reducible apply Blk.drew) | (with_reducible refine Blk.alloc ?_ _) | (with_reducible apply blk_two) | ((with_reducible refine blk_far ?_ ?_ _); (· first | (simp; done) | (simp; omega) | omega)) | ((with_reducible apply blk_kept); (· with_reducible assumption)))), (by repeat (first | (with_reducible exact Below.refl _ _) | (with_reducible assumption) | ((with_reducible refine Below.alloc ?_ ?_ _); rotate_left; (· first | (simp; done) | (simp; omega) | omega)) | ((with_reducible refine Below.setCell ?_ ?_ _); rotate_left; (· first | (simp; done) | (simp; omega) | omega)) | (with_reducible apply Below.drew) | ((with_reducible apply below_step); (· with_reducible assumption); rotate_left; (· first | (simp; done) | (simp; omega) | omega))))⟩
    case round =>
      obtain ⟨k, hk, rfl, hB, hR, hb⟩ := hrel
      have hne : w.heap.size + 1 < w1.heap.size := by omega
      have hE2 : Hid (cyQn (k + 1) (cyT x (unitP (m % 3))) = cyQ (cyQn k (cyT x (unitP (m % 3))))) := rfl
      have zb := hB.lt
      have HB := Lib.hid hB
      have HR2 := Lib.hid hR
      generalize hp : cyQn k (cyT x (unitP (m % 3))) = p at *
      have HP := Lib.hid hp
      clear hp
      have vv := hB.cell
      have rr := hR.cell
      have fv := hB.frozen
      have fr := hR.frozen
      clear hB hR
      by_cases hlt : k < q
      · go_wp2_with (go_at_call 82; refine (quarter_any _ _).mono ?_; rintro e w4 ⟨rfl, hb4⟩; obtain ⟨hc4, hf4⟩ := ifs_of hb4; have hs4 := hb4.size; (try simp at hs4))
        go_roundw
        case rel => exact ⟨k + 1, by omega, by go_num, by rw [hE2.out]; exact ((((HB.out.kept hb4).set_ 0 _).set_ 1 _).set_ 2 _).set_ 3 _, ((((HR2.out.kept hb4).far (by first | (simp; done) | (simp; omega)) _).far (by first | (simp; done) | (simp; omega)) _).far (by first | (simp; done) | (simp; omega)) _).far (by first | (simp; done) | (simp; omega)) _, (by repeat (first | (with_reducible exact Below.refl _ _) | (with_reducible assumption) | ((with_reducible refine Below.alloc ?_ ?_ _); rotate_left; (· first | (simp; done) | (simp; omega) | omega)) | ((with_reducible refine Below.setCell ?_ ?_ _); rotate_left; (· first | (simp; done) | (simp; omega) | omega)) | (with_reducible apply Below.drew) | ((with_reducible apply below_step); (· with_reducible assumption); rotate_left; (· first | (simp; done) | (simp; omega) | omega))))⟩
        case measure => simp [intOf]; omega
      · obtain rfl : k = q := by omega
        go_wp2
        exact bodyPost_ret (v := .agg #[.int .i64 p.a, .int .i64 p.b, .int .i64 p.c, .int .i64 p.d]) (by first | (simp [results, Tryd.results79, go_sem, *]; done) | (simp [results, Tryd.results79, go_sem, *, ↓IntWalk.iteOmega]; done)) rfl ⟨by rw [HT.out, HP.out], (by repeat (first | (with_reducible exact Below.refl _ _) | (with_reducible assumption) | ((with_reducible refine Below.alloc ?_ ?_ _); rotate_left; (· first | (simp; done) | (simp; omega) | omega)) | ((with_reducible refine Below.setCell ?_ ?_ _); rotate_left; (· first | (simp; done) | (simp; omega) | omega)) | (with_reducible apply Below.drew) | ((with_reducible apply below_step); (· with_reducible assumption); rotate_left; (· first | (simp; done) | (simp; omega) | omega))))⟩
  · have HR := Lib.hid hr
    have hm3 : (m : Int) = 3 * (q : Int) + 2 := by omega
    have hx1 : (3 * (q : Int) + 2).tmod 3 = 2 := by rw [Int.tmod_eq_emod_of_nonneg (by omega)]; omega
    have hx2 : (3 * (q : Int) + 2).tdiv 3 = (q : Int) := by rw [Int.tdiv_eq_ediv_of_nonneg (by omega)]; omega
    have hx3 : (3 * (q : Int) + 2) % 3 = 2 := by omega
    have hx4 : (3 * (q : Int) + 2) / 3 = (q : Int) := by omega
    clear hr
    go_enter Tryd.func79, Tryd.ntmps79
    go_wp2
    (refine wp_region_calm [] [0, 1, 2, 3, 4, 5] 2 (by kernel_rfl) rfl (by kernel_rfl) (by kernel_rfl) (by kernel_rfl) ?_; simp only [pickB, List.filterMap_cons, List.filterMap_nil, List.getElem?_toArray, List.getElem?_cons_zero, List.getElem?_cons_succ]; (repeat (refine quietL_plain rfl (fun K hK => ?_); (apply Exists.intro; refine ⟨fun wx hx => ?_, ?_⟩; (· (have hcx := ifs_ex hx); simp [go_sem, *, ↓IntWalk.iteOmega] <;> (first | rfl | exact ⟨rfl, rfl⟩ | exact calls_B (ctimes_any _ (unitP 2) _))); (simp only [Act.put, List.setIfInBounds_toArray, List.set_cons_zero, List.set_cons_succ]; refine hK _ ?_; clear hK K)))); refine quietL_nil ?_)
    (refine anyB_one (i := 6) (by kernel_rfl) rfl rfl ?_; intro w1 hb1 K hK; obtain ⟨hc1, hf1⟩ := ifs_of hb1; have hs1 := hb1.size; (try simp at hs1); go_wp2; refine ⟨(by repeat (first | (with_reducible exact Ex.refl _ _) | (with_reducible assumption) | (with_reducible refine Ex.alloc ?_ _) | ((with_reducible refine Ex.set_in ?_ ?_ _); (· first | (left; simp; done) | (right; simp; done) | (right; simp; omega) | (right; omega))) | ((with_reducible apply Ex.step); (· with_reducible assumption)))), ?_⟩)
    (refine anyB_one (i := 7) (by kernel_rfl) rfl rfl ?_; intro w2 hb2 K hK; obtain ⟨hc2, hf2⟩ := ifs_of hb2; have hs2 := hb2.size; (try simp at hs2); go_wp2; refine ⟨(by repeat (first | (with_reducible exact Ex.refl _ _) | (with_reducible assumption) | (with_reducible refine Ex.alloc ?_ _) | ((with_reducible refine Ex.set_in ?_ ?_ _); (· first | (left; simp; done) | (right; simp; done) | (right; simp; omega) | (right; omega))) | ((with_reducible apply Ex.step); (· with_reducible assumption)))), ?_⟩)
    (refine anyB_end (by kernel_rfl) ?_; intro w3 hb3; obtain ⟨hc3, hf3⟩ := ifs_of hb3; have hs3 := hb3.size; (try simp at hs3); simp only [Calm])
    have HM := Lib.hid hm3
    clear hm3
    go_wp2
    try rw [hE]
    have HE := Lib.hid hE
    have HQ3 := Lib.hid hq3
    clear hE hq3 hx1 hx2 hx3 hx4
    have z1 : w1.heap.size < w3.heap.size := by omega
    have z0 : w.heap.size + 1 < w1.heap.size := by omega
    go_loopw [18] (fun i wr => ∃ k : Nat, k ≤ q ∧ i = .int .i64 k ∧ Blk wr w1.heap.size 55 #[.int .i64 (cyQn k (cyT x (unitP (m % 3)))).a, .int .i64 (cyQn k (cyT x (unitP (m % 3)))).b, .int .i64 (cyQn k (cyT x (unitP (m % 3)))).c, .int .i64 (cyQn k (cyT x (unitP (m % 3)))).d] ∧ Blk wr (w.heap.size + 1) 55 #[.int .i64 0, .int .i64 0, .int .i64 0, .int .i64 0] ∧ Below w.heap.size w wr) (fun i _ => q - (intOf i).toNat)
    case atStart => exact ⟨0, Nat.zero_le _, rfl, (by rw [HR.out]; show Blk _ _ _ #[.int .i64 (cyT x (unitP _)).a, .int .i64 (cyT x (unitP _)).b, .int .i64 (cyT x (unitP _)).c, .int .i64 (cyT x (unitP _)).d]; have hq4 := blk_four (w := w2) (x := .int .i64 (cyT x (unitP 2)).a) (y := .int .i64 (cyT x (unitP 2)).b) (z := .int .i64 (cyT x (unitP 2)).c) (u := .int .i64 (cyT x (unitP 2)).d) (show Blk w2 w1.heap.size 55 #[.int .i64 0, .int .i64 0, .int .i64 0, .int .i64 0] from (by repeat (first | (with_reducible assumption) | ((with_reducible apply Blk.new_at); (first | (simp; done) | (simp; omega))) | (with_reducible apply Blk.drew) | (with_reducible refine Blk.alloc ?_ _) | (with_reducible apply blk_two) | ((with_reducible refine blk_far ?_ ?_ _); (· first | (simp; done) | (simp; omega) | omega)) | ((with_reducible apply blk_kept); (· with_reducible assumption))))); exact (by repeat (first | (with_reducible assumption) | ((with_reducible apply Blk.new_at); (first | (simp; done) | (simp; omega))) | (with_reducible apply Blk.drew) | (with_reducible refine Blk.alloc ?_ _) | (with_reducible apply blk_two) | ((with_reducible refine blk_far ?_ ?_ _); (· first | (simp; done) | (simp; omega) | omega)) | ((with_reducible apply blk_kept); (· with_reducible assumption))))), (by repeat (first | (with_reducible assumption) | ((with_reducible apply Blk.new_at); (first | (simp; done) | (simp; omega))) | (with_reducible apply Blk.drew) | (with_reducible refine Blk.alloc ?_ _) | (with_reducible apply blk_two) | ((with_reducible refine blk_far ?_ ?_ _); (· first | (simp; done) | (simp; omega) | omega)) | ((with_reducible apply blk_kept); (· with_reducible assumption)))), (by repeat (first | (with_reducible exact Below.refl _ _) | (with_reducible assumption) | ((with_reducible refine Below.alloc ?_ ?_ _); rotate_left; (· first | (simp; done) | (simp; omega) | omega)) | ((with_reducible refine Below.setCell ?_ ?_ _); rotate_left; (· first | (simp; done) | (simp; omega) | omega)) | (with_reducible apply Below.drew) | ((with_reducible apply below_step); (· with_reducible assumption); rotate_left; (· first | (simp; done) | (simp; omega) | omega))))⟩
    case round =>
      obtain ⟨k, hk, rfl, hB, hR, hb⟩ := hrel
      have hne : w.heap.size + 1 < w1.heap.size := by omega
      have hE2 : Hid (cyQn (k + 1) (cyT x (unitP (m % 3))) = cyQ (cyQn k (cyT x (unitP (m % 3))))) := rfl
      have zb := hB.lt
      have HB := Lib.hid hB
      have HR2 := Lib.hid hR
      generalize hp : cyQn k (cyT x (unitP (m % 3))) = p at *
      have HP := Lib.hid hp
      clear hp
      have vv := hB.cell
      have rr := hR.cell
      have fv := hB.frozen
      have fr := hR.frozen
      clear hB hR
      by_cases hlt : k < q
      · go_wp2_with (go_at_call 82; refine (quarter_any _ _).mono ?_; rintro e w4 ⟨rfl, hb4⟩; obtain ⟨hc4, hf4⟩ := ifs_of hb4; have hs4 := hb4.size; (try simp at hs4))
        go_roundw
        case rel => exact ⟨k + 1, by omega, by go_num, by rw [hE2.out]; exact ((((HB.out.kept hb4).set_ 0 _).set_ 1 _).set_ 2 _).set_ 3 _, ((((HR2.out.kept hb4).far (by first | (simp; done) | (simp; omega)) _).far (by first | (simp; done) | (simp; omega)) _).far (by first | (simp; done) | (simp; omega)) _).far (by first | (simp; done) | (simp; omega)) _, (by repeat (first | (with_reducible exact Below.refl _ _) | (with_reducible assumption) | ((with_reducible refine Below.alloc ?_ ?_ _); rotate_left; (· first | (simp; done) | (simp; omega) | omega)) | ((with_reducible refine Below.setCell ?_ ?_ _); rotate_left; (· first | (simp; done) | (simp; omega) | omega)) | (with_reducible apply Below.drew) | ((with_reducible apply below_step); (· with_reducible assumption); rotate_left; (· first | (simp; done) | (simp; omega) | omega))))⟩
        case measure => simp [intOf]; omega
      · obtain rfl : k = q := by omega
        go_wp2
        exact bodyPost_ret (v := .agg #[.int .i64 p.a, .int .i64 p.b, .int .i64 p.c, .int .i64 p.d]) (by first | (simp [results, Tryd.results79, go_sem, *]; done) | (simp [results, Tryd.results79, go_sem, *, ↓IntWalk.iteOmega]; done)) rfl ⟨by rw [HT.out, HP.out], (by repeat (first | (with_reducible exact Below.refl _ _) | (with_reducible assumption) | ((with_reducible refine Below.alloc ?_ ?_ _); rotate_left; (· first | (simp; done) | (simp; omega) | omega)) | ((with_reducible refine Below.setCell ?_ ?_ _); rotate_left; (· first | (simp; done) | (simp; omega) | omega)) | (with_reducible apply Below.drew) | ((with_reducible apply below_step); (· with_reducible assumption); rotate_left; (· first | (simp; done) | (simp; omega) | omega))))⟩
end Go.Proofs.YtjakigncloleaaaDoor
