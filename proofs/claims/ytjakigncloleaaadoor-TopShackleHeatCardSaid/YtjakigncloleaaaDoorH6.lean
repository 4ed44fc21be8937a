/- Contracts of flow: losses, balances. -/
import Derived.Test.YtjakigncloleaaaDoorH4
import Derived.Test.YtjakigncloleaaaDoorPl
namespace Go.Proofs.YtjakigncloleaaaDoor
open Go.RowKit Go.Sort
set_option linter.unusedSimpArgs false
set_option linter.unusedVariables false
attribute [local go_sem] cell_if frozen_if grow_cell
/-- Valid losses. -/
structure Ls (F L S : Int) : Prop where
  f0 : 0 ≤ F
  f1 : F ≤ 1000
  l0 : 0 ≤ L
  l1 : L ≤ 1000
  s0 : 0 ≤ S
  s1 : S ≤ 1000
def lossN (F L S n : Int) : Int := F * 1024 * 1024 + L * n * 1024 + S * n * n
def lossLo (F L S n : Int) : Int := if n = 0 then 0 else lossN F L S n / 1048576
def lossHi (F L S n : Int) : Int := if n = 0 then 0 else (lossN F L S n + 1048576 - 1) / 1048576
theorem loss_bounds {F L S n : Int} (h : Ls F L S) (h0 : 0 ≤ n) (h1 : n ≤ 1000) : (0 ≤ L * n ∧ L * n ≤ 1000000) ∧ (0 ≤ S * n ∧ S * n ≤ 1000000) ∧ (0 ≤ S * n * n ∧ S * n * n ≤ 1000000000) := by
  obtain ⟨f0, f1, l0, l1, s0, s1⟩ := h
  have a := Int.mul_nonneg l0 h0
  have b := Int.mul_nonneg s0 h0
  have c := Int.mul_nonneg b h0
  have a' : L * n ≤ 1000 * 1000 := Int.mul_le_mul l1 h1 h0 (by omega)
  have b' : S * n ≤ 1000 * 1000 := Int.mul_le_mul s1 h1 h0 (by omega)
  have c' : S * n * n ≤ (1000 * 1000) * 1000 := Int.mul_le_mul b' h1 h0 (by omega)
  omega
theorem loss_any (F L S n : Int) (w : World) (h : Ls F L S) (h0 : 0 ≤ n) (h1 : n ≤ 1000) :
    Calls Tryd.prog 55 #[.agg #[.int .i64 F, .int .i64 L, .int .i64 S], .int .i64 n] w fun e w' => e = .returned (.agg #[.int .i64 (lossLo F L S n), .int .i64 (lossHi F L S n)]) ∧ Below w.heap.size w w' := by
  obtain ⟨⟨a1, a2⟩, ⟨b1, b2⟩, ⟨c1, c2⟩⟩ := loss_bounds h h0 h1
  obtain ⟨f0, f1, l0, l1, s0, s1⟩ := h
  by_cases hn : n = 0
  · subst hn
    rw [show lossLo F L S 0 = 0 from rfl, show lossHi F L S 0 = 0 from rfl]
    clear a1 a2 b1 b2 c1 c2
    go_enter Tryd.func55, Tryd.ntmps55
    go_wp2
    exact bodyPost_ret (by first | (simp [results, Tryd.results55, go_sem, *]; done) | (simp [results, Tryd.results55, go_sem, *, ↓IntWalk.iteOmega]; done) | (simp [results, Tryd.results55, go_sem, *]; (repeat' apply And.intro) <;> rfl) | (simp [results, Tryd.results55, go_sem, *, ↓IntWalk.iteOmega]; (repeat' apply And.intro) <;> rfl)) rfl ⟨rfl, (by repeat (first | (with_reducible exact Below.refl _ _) | (with_reducible assumption) | ((with_reducible refine Below.alloc ?_ ?_ _); rotate_left; (· first | (simp; done) | (simp; omega) | omega)) | ((with_reducible refine Below.setCell ?_ ?_ _); rotate_left; (· first | (simp; done) | (simp; omega) | omega)) | (with_reducible apply Below.drew) | ((with_reducible apply below_step); (· with_reducible assumption); rotate_left; (· first | (simp; done) | (simp; omega) | omega))))⟩
  · have e1 : lossLo F L S n = (F * 1024 * 1024 + L * n * 1024 + S * n * n) / 1048576 := if_neg hn
    have e2 : lossHi F L S n = (F * 1024 * 1024 + L * n * 1024 + S * n * n + 1048576 - 1) / 1048576 := if_neg hn
    rw [e1, e2]
    clear e1 e2
    have hn' : (n == 0) = false := by simpa using hn
    go_enter Tryd.func55, Tryd.ntmps55
    go_wp2
    exact bodyPost_ret (by first | (simp [results, Tryd.results55, go_sem, *]; done) | (simp [results, Tryd.results55, go_sem, *, ↓IntWalk.iteOmega]; done) | (simp [results, Tryd.results55, go_sem, *]; (repeat' apply And.intro) <;> rfl) | (simp [results, Tryd.results55, go_sem, *, ↓IntWalk.iteOmega]; (repeat' apply And.intro) <;> rfl)) rfl ⟨rfl, (by repeat (first | (with_reducible exact Below.refl _ _) | (with_reducible assumption) | ((with_reducible refine Below.alloc ?_ ?_ _); rotate_left; (· first | (simp; done) | (simp; omega) | omega)) | ((with_reducible refine Below.setCell ?_ ?_ _); rotate_left; (· first | (simp; done) | (simp; omega) | omega)) | (with_reducible apply Below.drew) | ((with_reducible apply below_step); (· with_reducible assumption); rotate_left; (· first | (simp; done) | (simp; omega) | omega))))⟩
def dlLo (F L S n : Int) : Int := max 0 (n - lossHi F L S n)
def dlHi (F L S n : Int) : Int := max 0 (n - lossLo F L S n)
theorem loss_range {F L S n : Int} (h : Ls F L S) (h0 : 0 ≤ n) (h1 : n ≤ 1000) : 0 ≤ lossLo F L S n ∧ lossLo F L S n ≤ lossHi F L S n ∧ lossHi F L S n ≤ lossLo F L S n + 1 ∧ lossHi F L S n ≤ 10000 := by
  obtain ⟨⟨a1, a2⟩, ⟨b1, b2⟩, ⟨c1, c2⟩⟩ := loss_bounds h h0 h1
  obtain ⟨f0, f1, l0, l1, s0, s1⟩ := h
  unfold lossLo lossHi lossN
  split
  · omega
  · generalize L * n = x at *
    generalize S * n * n = y at *
    omega
theorem delivered_any (F L S n : Int) (w : World) (h : Ls F L S) (h0 : 0 ≤ n) (h1 : n ≤ 1000) :
    Calls Tryd.prog 51 #[.agg #[.int .i64 F, .int .i64 L, .int .i64 S], .int .i64 n] w fun e w' => e = .returned (.agg #[.int .i64 (dlLo F L S n), .int .i64 (dlHi F L S n)]) ∧ Below w.heap.size w w' := by
  obtain ⟨r1, r2, r3, r4⟩ := loss_range h h0 h1
  have HL := fun W => loss_any F L S n W h h0 h1
  unfold dlLo dlHi
  have HH := Lib.hid HL
  clear HL
  generalize lossLo F L S n = lo at *
  generalize lossHi F L S n = hi at *
  rcases (show (hi < n ∧ lo < n) ∨ (¬ hi < n ∧ lo < n) ∨ (¬ hi < n ∧ ¬ lo < n) from by omega) with ⟨hA, hB⟩ | ⟨hA, hB⟩ | ⟨hA, hB⟩
  · rw [show max 0 (n - hi) = n - hi from by omega, show max 0 (n - lo) = n - lo from by omega]
    go_enter Tryd.func51, Tryd.ntmps51
    go_wp2_with (go_at_call 55; refine (HH.out _).mono ?_; rintro e w1 ⟨rfl, hb1⟩; obtain ⟨hc1, hf1⟩ := ifs_of hb1; have hs1 := hb1.size; (try simp at hs1))
    exact bodyPost_ret (by first | (simp [results, Tryd.results51, go_sem, *]; done) | (simp [results, Tryd.results51, go_sem, *, ↓IntWalk.iteOmega]; done) | (simp [results, Tryd.results51, go_sem, *]; (repeat' apply And.intro) <;> rfl) | (simp [results, Tryd.results51, go_sem, *, ↓IntWalk.iteOmega]; (repeat' apply And.intro) <;> rfl)) rfl ⟨rfl, (by repeat (first | (with_reducible exact Below.refl _ _) | (with_reducible assumption) | ((with_reducible refine Below.alloc ?_ ?_ _); rotate_left; (· first | (simp; done) | (simp; omega) | omega)) | ((with_reducible refine Below.setCell ?_ ?_ _); rotate_left; (· first | (simp; done) | (simp; omega) | omega)) | (with_reducible apply Below.drew) | ((with_reducible apply below_step); (· with_reducible assumption); rotate_left; (· first | (simp; done) | (simp; omega) | omega))))⟩
  · rw [show max 0 (n - hi) = 0 from by omega, show max 0 (n - lo) = n - lo from by omega]
    go_enter Tryd.func51, Tryd.ntmps51
    go_wp2_with (go_at_call 55; refine (HH.out _).mono ?_; rintro e w1 ⟨rfl, hb1⟩; obtain ⟨hc1, hf1⟩ := ifs_of hb1; have hs1 := hb1.size; (try simp at hs1))
    exact bodyPost_ret (by first | (simp [results, Tryd.results51, go_sem, *]; done) | (simp [results, Tryd.results51, go_sem, *, ↓IntWalk.iteOmega]; done) | (simp [results, Tryd.results51, go_sem, *]; (repeat' apply And.intro) <;> rfl) | (simp [results, Tryd.results51, go_sem, *, ↓IntWalk.iteOmega]; (repeat' apply And.intro) <;> rfl)) rfl ⟨rfl, (by repeat (first | (with_reducible exact Below.refl _ _) | (with_reducible assumption) | ((with_reducible refine Below.alloc ?_ ?_ _); rotate_left; (· first | (simp; done) | (simp; omega) | omega)) | ((with_reducible refine Below.setCell ?_ ?_ _); rotate_left; (· first | (simp; done) | (simp; omega) | omega)) | (with_reducible apply Below.drew) | ((with_reducible apply below_step); (· with_reducible assumption); rotate_left; (· first | (simp; done) | (simp; omega) | omega))))⟩
  · rw [show max 0 (n - hi) = 0 from by omega, show max 0 (n - lo) = 0 from by omega]
    go_enter Tryd.func51, Tryd.ntmps51
    go_wp2_with (go_at_call 55; refine (HH.out _).mono ?_; rintro e w1 ⟨rfl, hb1⟩; obtain ⟨hc1, hf1⟩ := ifs_of hb1; have hs1 := hb1.size; (try simp at hs1))
    exact bodyPost_ret (by first | (simp [results, Tryd.results51, go_sem, *]; done) | (simp [results, Tryd.results51, go_sem, *, ↓IntWalk.iteOmega]; done) | (simp [results, Tryd.results51, go_sem, *]; (repeat' apply And.intro) <;> rfl) | (simp [results, Tryd.results51, go_sem, *, ↓IntWalk.iteOmega]; (repeat' apply And.intro) <;> rfl)) rfl ⟨rfl, (by repeat (first | (with_reducible exact Below.refl _ _) | (with_reducible assumption) | ((with_reducible refine Below.alloc ?_ ?_ _); rotate_left; (· first | (simp; done) | (simp; omega) | omega)) | ((with_reducible refine Below.setCell ?_ ?_ _); rotate_left; (· first | (simp; done) | (simp; omega) | omega)) | (with_reducible apply Below.drew) | ((with_reducible apply below_step); (· with_reducible assumption); rotate_left; (· first | (simp; done) | (simp; omega) | omega))))⟩
theorem fCheckLosses_any (F L S : Int) (w : World) (h : Ls F L S) :
    Calls Tryd.prog 46 #[.agg #[.int .i64 F, .int .i64 L, .int .i64 S]] w fun e w' => e = .returned (.int .i64 0) ∧ Below w.heap.size w w' := by
  have e1 : Hid (ckR F 0 1000 = 0) := ckR_yes ⟨h.f0, h.f1⟩
  have e2 : Hid (ckR L 0 1000 = 0) := ckR_yes ⟨h.l0, h.l1⟩
  have e3 : Hid (ckR S 0 1000 = 0) := ckR_yes ⟨h.s0, h.s1⟩
  clear h
  go_enter Tryd.func46, Tryd.ntmps46
  go_wp2_with fail
  (refine wp_region_head_below 9 (by kernel_rfl) (by kernel_rfl) ?_; simp only [List.take_succ_cons, List.take_zero, List.drop_succ_cons, List.drop_zero]; (repeat (go_big_quiet_step (exact Calls.regrown_of (fwithin_b _ _ _ _)))); refine wpQuiet_nil ?_)
  rw [e1.out, e2.out, e3.out]
  intro w1 hb1
  obtain ⟨hc1, hf1⟩ := ifs_of hb1; have hs1 := hb1.size; (try simp at hs1)
  go_wp2_with (go_at_call 45; refine (ffirst_new [0, 0, 0] _ _ 3 rfl (by unfold maxLen; omega)).mono ?_; rw [show firstE [0, 0, 0] = 0 from rfl]; rintro e w3 ⟨rfl, rfl⟩)
  go_ret
  exact ⟨rfl, (by repeat (first | (with_reducible exact Below.refl _ _) | (with_reducible assumption) | ((with_reducible refine Below.alloc ?_ ?_ _); rotate_left; (· first | (simp; done) | (simp; omega) | omega)) | ((with_reducible refine Below.setCell ?_ ?_ _); rotate_left; (· first | (simp; done) | (simp; omega) | omega)) | (with_reducible apply Below.drew) | ((with_reducible apply below_step); (· with_reducible assumption); rotate_left; (· first | (simp; done) | (simp; omega) | omega))))⟩
theorem checkLoss_any (F L S n : Int) (w : World) (h : Ls F L S) (h0 : 0 ≤ n) (h1 : n ≤ 1000) :
    Calls Tryd.prog 54 #[.agg #[.int .i64 F, .int .i64 L, .int .i64 S], .int .i64 n] w fun e w' => e = .returned (.int .i64 0) ∧ Below w.heap.size w w' := by
  have e1 : Hid (ckR n 0 1000 = 0) := ckR_yes ⟨h0, h1⟩
  go_enter Tryd.func54, Tryd.ntmps54
  go_wp2_with (first | (go_at_call 46; refine (fCheckLosses_any F L S _ h).mono ?_; rintro e w1 ⟨rfl, hb1⟩; obtain ⟨hc1, hf1⟩ := ifs_of hb1; have hs1 := hb1.size; (try simp at hs1)) | (go_at_call 50; refine (fwithin_any _ _ _ _).mono ?_; rw [e1.out]; rintro e w2 ⟨rfl, rfl⟩) | (go_at_call 45; refine (ffirst_new [0, 0] _ _ 2 rfl (by unfold maxLen; omega)).mono ?_; rw [show firstE [0, 0] = 0 from rfl]; rintro e w3 ⟨rfl, rfl⟩))
  go_ret
  exact ⟨rfl, (by repeat (first | (with_reducible exact Below.refl _ _) | (with_reducible assumption) | ((with_reducible refine Below.alloc ?_ ?_ _); rotate_left; (· first | (simp; done) | (simp; omega) | omega)) | ((with_reducible refine Below.setCell ?_ ?_ _); rotate_left; (· first | (simp; done) | (simp; omega) | omega)) | (with_reducible apply Below.drew) | ((with_reducible apply below_step); (· with_reducible assumption); rotate_left; (· first | (simp; done) | (simp; omega) | omega))))⟩
theorem Loss_any (F L S n : Int) (w : World) (h : Ls F L S) (h0 : 0 ≤ n) (h1 : n ≤ 1000) :
    Calls Tryd.prog 23 #[.agg #[.int .i64 F, .int .i64 L, .int .i64 S], .int .i64 n] w fun e w' => e = .returned (.tuple #[.agg #[.int .i64 (lossLo F L S n), .int .i64 (lossHi F L S n)], .int .i64 0]) ∧ Below w.heap.size w w' := by
  go_enter Tryd.func23, Tryd.ntmps23
  go_wp2_with (first | (go_at_call 54; refine (checkLoss_any F L S n _ h h0 h1).mono ?_; rintro e w1 ⟨rfl, hb1⟩; obtain ⟨hc1, hf1⟩ := ifs_of hb1; have hs1 := hb1.size; (try simp at hs1)) | (go_at_call 55; refine (loss_any F L S n _ h h0 h1).mono ?_; rintro e w2 ⟨rfl, hb2⟩; obtain ⟨hc2, hf2⟩ := ifs_of hb2; have hs2 := hb2.size; (try simp at hs2)))
  exact bodyPost_ret (by first | (simp [results, Tryd.results23, go_sem, *]; done) | (simp [results, Tryd.results23, go_sem, *, ↓IntWalk.iteOmega]; done) | (simp [results, Tryd.results23, go_sem, *]; (repeat' apply And.intro) <;> rfl) | (simp [results, Tryd.results23, go_sem, *, ↓IntWalk.iteOmega]; (repeat' apply And.intro) <;> rfl)) rfl ⟨rfl, (by repeat (first | (with_reducible exact Below.refl _ _) | (with_reducible assumption) | ((with_reducible refine Below.alloc ?_ ?_ _); rotate_left; (· first | (simp; done) | (simp; omega) | omega)) | ((with_reducible refine Below.setCell ?_ ?_ _); rotate_left; (· first | (simp; done) | (simp; omega) | omega)) | (with_reducible apply Below.drew) | ((with_reducible apply below_step); (· with_reducible assumption); rotate_left; (· first | (simp; done) | (simp; omega) | omega))))⟩
/-- The sums of what is delivered. -/
def balLo (F L S : Int) (zs : List Int) : Int := zs.foldl (fun s z => s + dlLo F L S z) 0
def balHi (F L S : Int) (zs : List Int) : Int := zs.foldl (fun s z => s + dlHi F L S z) 0
theorem bal_snoc (f : Int → Int) (zs : List Int) (k : Nat) (h : k < zs.length) : (zs.take (k + 1)).foldl (fun s z => s + f z) 0 = (zs.take k).foldl (fun s z => s + f z) 0 + f zs[k] := by
  rw [List.take_succ_eq_append_getElem h, List.foldl_append]
  rfl
theorem bal_le (f : Int → Int) (hf : ∀ z, 0 ≤ z → z ≤ 1000 → 0 ≤ f z ∧ f z ≤ 1000) : ∀ (zs : List Int), (∀ z ∈ zs, 0 ≤ z ∧ z ≤ 1000) → ∀ a : Int, a ≤ zs.foldl (fun s z => s + f z) a ∧ zs.foldl (fun s z => s + f z) a ≤ a + 1000 * zs.length
  | [], _, a => by simp
  | z :: zs, h, a => by
    have h1 := h z (by simp)
    have h2 := hf z h1.1 h1.2
    have h3 := bal_le f hf zs (fun x hx => h x (by simp [hx])) (a + f z)
    simp only [List.foldl_cons, List.length_cons]
    omega
theorem dl_range {F L S : Int} (h : Ls F L S) : (∀ z, 0 ≤ z → z ≤ 1000 → 0 ≤ dlLo F L S z ∧ dlLo F L S z ≤ 1000) ∧ (∀ z, 0 ≤ z → z ≤ 1000 → 0 ≤ dlHi F L S z ∧ dlHi F L S z ≤ 1000) := by
  refine ⟨fun z h0 h1 => ?_, fun z h0 h1 => ?_⟩
  · have := loss_range h h0 h1; unfold dlLo; omega
  · have := loss_range h h0 h1; unfold dlHi; omega
set_option maxHeartbeats 1000000 in
theorem Balance_any (F L S : Int) (B : Nat) (A : Option Addr) (n c : Nat) (zs : List Int) (w : World) (h : Ls F L S) (hr : Reads w B 1 A n (zs.map (.int .i64))) (hB : B ≤ w.heap.size) (hn : n ≤ 200) (hz : ∀ z ∈ zs, 0 ≤ z ∧ z ≤ 1000) :
    Calls Tryd.prog 20 #[.agg #[.int .i64 F, .int .i64 L, .int .i64 S], .slice A n c] w fun e w' => e = .returned (.tuple #[.agg #[.int .i64 (balLo F L S zs), .int .i64 (balHi F L S zs)], .int .i64 0]) ∧ Below w.heap.size w w' := by
  have hl : zs.length = n := by simpa using hr.1
  have Hl := Lib.hid hl; clear hl
  have HR := Lib.hid hr; clear hr
  have HK : Hid (firstE (zs.map fun z => ckR z 0 1000) = 0) := firstE_zero (fun z hh => ckR_yes (hz z hh))
  have HZ := Lib.hid hz
  clear hz
  have hd : decide ((256 : Int) < (n : Int)) = false := by simp; omega
  have e2 : ∀ (d : Nat) (xs ys : Array Value) (w : World), (Op.equalIn (d + 1) 105 (.agg xs) (.agg ys)).run Tryd.prog w = (eqElems d 3 1 xs ys [0, 1]).run Tryd.prog w := fun d xs ys w => run_equalIn_array (P := Tryd.prog) w d _ _ 2 1 xs ys Tryd.underlying105 (by kernel_rfl)
  go_enter Tryd.func20, Tryd.ntmps20
  go_wp2_with fail
  refine (fCheckLosses_any F L S _ h).mono ?_
  rintro e w1 ⟨rfl, hb1⟩
  obtain ⟨hc1, hf1⟩ := ifs_of hb1; have hs1 := hb1.size; (try simp at hs1)
  go_wp2_with fail
  refine (fwhen_any false 5 _).mono ?_
  rw [show whenE false 5 = 0 from rfl]
  rintro e w2 ⟨rfl, rfl⟩
  go_wp2_with fail
  refine (ffirst_new [0, 0] _ _ 2 rfl (by unfold maxLen; omega)).mono ?_
  rw [show firstE [0, 0] = 0 from rfl]
  rintro e w3 ⟨rfl, rfl⟩
  go_wp2_with fail
  have hs0 : w.heap.size + 2 ≤ w1.heap.size := by omega
  have hbB : Below B w (w1.alloc (.cells #[.int .i64 0, .int .i64 0] 33)) := ((show Below w.heap.size w w1 from (by repeat (first | (with_reducible exact Below.refl _ _) | (with_reducible assumption) | ((with_reducible refine Below.alloc ?_ ?_ _); rotate_left; (· first | (simp; done) | (simp; omega) | omega)) | ((with_reducible refine Below.setCell ?_ ?_ _); rotate_left; (· first | (simp; done) | (simp; omega) | omega)) | (with_reducible apply Below.drew) | ((with_reducible apply below_step); (· with_reducible assumption); rotate_left; (· first | (simp; done) | (simp; omega) | omega))))).mono hB).alloc (by omega) _
  refine (fmapped_any B A n c zs _ (HR.out.below hbB) (by simp; omega) (by omega)).mono ?_
  rintro e w4 ⟨A2, cap2, rfl, hr2, hb4⟩
  have hs4 := hb4.size
  have HR2 := Lib.hid hr2
  clear hr2
  obtain ⟨hc4, hf4⟩ := ifs_of hb4; have hs4 := hb4.size; (try simp at hs4)
  go_wp2_with fail
  refine (ffirst_any _ _ n cap2 _ _ HR2.out (by unfold maxLen; omega)).mono ?_
  rw [HK.out]
  rintro e w5 ⟨rfl, rfl⟩
  clear hd
  go_wp2_with fail
  have hs5 : w1.heap.size < w4.heap.size := by omega
  go_loopw [10, 11, 12, 34] (fun _ _ _ i wr => ∃ k : Nat, k ≤ n ∧ i = .int .i64 k ∧ Blk wr w4.heap.size 105 #[.int .i64 (balLo F L S (zs.take k)), .int .i64 (balHi F L S (zs.take k))] ∧ Blk wr w.heap.size 65 #[.int .i64 F, .int .i64 L, .int .i64 S] ∧ Blk wr (w.heap.size + 1) 62 #[.int .i64 0, .int .i64 0] ∧ Below w.heap.size w wr) (fun _ _ _ i _ => n - (intOf i).toNat)
  case atStart => exact ⟨0, Nat.zero_le _, rfl, (by show Blk _ _ _ #[.int .i64 0, .int .i64 0]; exact (by repeat (first | (with_reducible assumption) | ((with_reducible apply Blk.new_at); (first | (simp; done) | (simp; omega))) | (with_reducible apply Blk.drew) | (with_reducible refine Blk.alloc ?_ _) | (with_reducible apply blk_two) | ((with_reducible refine blk_far ?_ ?_ _); (· first | (simp; done) | (simp; omega) | omega)) | ((with_reducible apply blk_kept); (· with_reducible assumption))))), (by repeat (first | (with_reducible assumption) | ((with_reducible apply Blk.new_at); (first | (simp; done) | (simp; omega))) | (with_reducible apply Blk.drew) | (with_reducible refine Blk.alloc ?_ _) | (with_reducible apply blk_two) | ((with_reducible refine blk_far ?_ ?_ _); (· first | (simp; done) | (simp; omega) | omega)) | ((with_reducible apply blk_kept); (· with_reducible assumption)))), (by repeat (first | (with_reducible assumption) | ((with_reducible apply Blk.new_at); (first | (simp; done) | (simp; omega))) | (with_reducible apply Blk.drew) | (with_reducible refine Blk.alloc ?_ _) | (with_reducible apply blk_two) | ((with_reducible refine blk_far ?_ ?_ _); (· first | (simp; done) | (simp; omega) | omega)) | ((with_reducible apply blk_kept); (· with_reducible assumption)))), (by repeat (first | (with_reducible exact Below.refl _ _) | (with_reducible assumption) | ((with_reducible refine Below.alloc ?_ ?_ _); rotate_left; (· first | (simp; done) | (simp; omega) | omega)) | ((with_reducible refine Below.setCell ?_ ?_ _); rotate_left; (· first | (simp; done) | (simp; omega) | omega)) | (with_reducible apply Below.drew) | ((with_reducible apply below_step); (· with_reducible assumption); rotate_left; (· first | (simp; done) | (simp; omega) | omega))))⟩
  case round =>
    obtain ⟨k, hk, rfl, hO, hX, hR, hb⟩ := hrel
    have zo := hO.lt
    have HO := Lib.hid hO
    have HX := Lib.hid hX
    have HRR := Lib.hid hR
    have hs := hb.size
    obtain ⟨d1, d2⟩ := dl_range h
    have b1 := bal_le (dlLo F L S) d1 (zs.take k) (fun z hz => HZ.out z (List.mem_of_mem_take hz)) 0
    have b2 := bal_le (dlHi F L S) d2 (zs.take k) (fun z hz => HZ.out z (List.mem_of_mem_take hz)) 0
    have hlk : (zs.take k).length ≤ k := List.length_take_le _ _
    have B1 : 0 ≤ balLo F L S (zs.take k) ∧ balLo F L S (zs.take k) ≤ 200000 := by unfold balLo; omega
    have B2 : 0 ≤ balHi F L S (zs.take k) ∧ balHi F L S (zs.take k) ≤ 200000 := by unfold balHi; omega
    obtain ⟨B11, B12⟩ := B1
    obtain ⟨B21, B22⟩ := B2
    clear b1 b2 hlk
    by_cases hlt : k < n
    · obtain ⟨b, o, u, rfl, hbb, hu, hc⟩ := (HR.out.below (hb.mono hB)).at_ hlt
      have hkl : k < zs.length := by rw [Hl.out]; exact hlt
      obtain rfl : u = .int .i64 zs[k] := by simpa [hkl] using hu.symm
      have S1 := Lib.hid (bal_snoc (dlLo F L S) zs k hkl)
      have S2 := Lib.hid (bal_snoc (dlHi F L S) zs k hkl)
      obtain ⟨z0, z1⟩ := HZ.out zs[k] (List.getElem_mem hkl)
      have HD := Lib.hid (fun W => delivered_any F L S zs[k] W h z0 z1)
      have r1 := d1 zs[k] z0 z1
      have r2 := d2 zs[k] z0 z1
      clear hu d1 d2
      obtain ⟨r11, r12⟩ := r1
      obtain ⟨r21, r22⟩ := r2
      generalize dlLo F L S zs[k] = x at *
      generalize dlHi F L S zs[k] = y at *
      generalize zs[k] = z at *
      have q1 : balLo F L S (zs.take k) = (zs.take k).foldl (fun s z => s + dlLo F L S z) 0 := rfl
      have q2 : balHi F L S (zs.take k) = (zs.take k).foldl (fun s z => s + dlHi F L S z) 0 := rfl
      have T1 : Hid (balLo F L S (zs.take (k + 1)) = balLo F L S (zs.take k) + x) := S1.out
      have T2 : Hid (balHi F L S (zs.take (k + 1)) = balHi F L S (zs.take k) + y) := S2.out
      clear q1 q2
      generalize balLo F L S (zs.take k) = s1 at *
      generalize balHi F L S (zs.take k) = s2 at *
      have vx := hX.cell
      have vo := hO.cell
      have fo := hO.frozen
      clear hX hO hR
      have kx : x = 0 ∧ y = 0 ∨ (x == 0) = false ∨ x = 0 ∧ (y == 0) = false := by
        by_cases h1 : x = 0
        · by_cases h2 : y = 0
          · exact .inl ⟨h1, h2⟩
          · exact .inr (.inr ⟨h1, by simpa using h2⟩)
        · exact .inr (.inl (by simpa using h1))
      rcases kx with ⟨rfl, rfl⟩ | hx | ⟨rfl, hy⟩
      · go_wp2_with (go_at_call 51; refine (HD.out _).mono ?_; rintro e w6 ⟨rfl, hb6⟩; obtain ⟨hc6, hf6⟩ := ifs_of hb6; have hs6 := hb6.size; (try simp at hs6))
        go_roundw
        case rel =>
          have x1 := HO.out
          have x2 := HX.out
          have x3 := HRR.out
          exact ⟨k + 1, by omega, by go_num, by rw [T1.out, T2.out, Int.add_zero, Int.add_zero]; exact (by repeat (first | (with_reducible assumption) | ((with_reducible apply Blk.new_at); (first | (simp; done) | (simp; omega))) | (with_reducible apply Blk.drew) | (with_reducible refine Blk.alloc ?_ _) | (with_reducible apply blk_two) | ((with_reducible refine blk_far ?_ ?_ _); (· first | (simp; done) | (simp; omega) | omega)) | ((with_reducible apply blk_kept); (· with_reducible assumption)))), (by repeat (first | (with_reducible assumption) | ((with_reducible apply Blk.new_at); (first | (simp; done) | (simp; omega))) | (with_reducible apply Blk.drew) | (with_reducible refine Blk.alloc ?_ _) | (with_reducible apply blk_two) | ((with_reducible refine blk_far ?_ ?_ _); (· first | (simp; done) | (simp; omega) | omega)) | ((with_reducible apply blk_kept); (· with_reducible assumption)))), (by repeat (first | (with_reducible assumption) | ((with_reducible apply Blk.new_at); (first | (simp; done) | (simp; omega))) | (with_reducible apply Blk.drew) | (with_reducible refine Blk.alloc ?_ _) | (with_reducible apply blk_two) | ((with_reducible refine blk_far ?_ ?_ _); (· first | (simp; done) | (simp; omega) | omega)) | ((with_reducible apply blk_kept); (· with_reducible assumption)))), (by repeat (first | (with_reducible exact Below.refl _ _) | (with_reducible assumption) | ((with_reducible refine Below.alloc ?_ ?_ _); rotate_left; (· first | (simp; done) | (simp; omega) | omega)) | ((with_reducible refine Below.setCell ?_ ?_ _); rotate_left; (· first | (simp; done) | (simp; omega) | omega)) | (with_reducible apply Below.drew) | ((with_reducible apply below_step); (· with_reducible assumption); rotate_left; (· first | (simp; done) | (simp; omega) | omega))))⟩
        case measure => simp [intOf]; omega
      · go_wp2_with (go_at_call 51; refine (HD.out _).mono ?_; rintro e w6 ⟨rfl, hb6⟩; obtain ⟨hc6, hf6⟩ := ifs_of hb6; have hs6 := hb6.size; (try simp at hs6))
        go_roundw
        case rel =>
          have x1 := HO.out
          have x2 := HX.out
          have x3 := HRR.out
          exact ⟨k + 1, by omega, by go_num, by rw [T1.out, T2.out]; exact (by repeat (first | (with_reducible assumption) | ((with_reducible apply Blk.new_at); (first | (simp; done) | (simp; omega))) | (with_reducible apply Blk.drew) | (with_reducible refine Blk.alloc ?_ _) | (with_reducible apply blk_two) | ((with_reducible refine blk_far ?_ ?_ _); (· first | (simp; done) | (simp; omega) | omega)) | ((with_reducible apply blk_kept); (· with_reducible assumption)))), (by repeat (first | (with_reducible assumption) | ((with_reducible apply Blk.new_at); (first | (simp; done) | (simp; omega))) | (with_reducible apply Blk.drew) | (with_reducible refine Blk.alloc ?_ _) | (with_reducible apply blk_two) | ((with_reducible refine blk_far ?_ ?_ _); (· first | (simp; done) | (simp; omega) | omega)) | ((with_reducible apply blk_kept); (· with_reducible assumption)))), (by repeat (first | (with_reducible assumption) | ((with_reducible apply Blk.new_at); (first | (simp; done) | (simp; omega))) | (with_reducible apply Blk.drew) | (with_reducible refine Blk.alloc ?_ _) | (with_reducible apply blk_two) | ((with_reducible refine blk_far ?_ ?_ _); (· first | (simp; done) | (simp; omega) | omega)) | ((with_reducible apply blk_kept); (· with_reducible assumption)))), (by repeat (first | (with_reducible exact Below.refl _ _) | (with_reducible assumption) | ((with_reducible refine Below.alloc ?_ ?_ _); rotate_left; (· first | (simp; done) | (simp; omega) | omega)) | ((with_reducible refine Below.setCell ?_ ?_ _); rotate_left; (· first | (simp; done) | (simp; omega) | omega)) | (with_reducible apply Below.drew) | ((with_reducible apply below_step); (· with_reducible assumption); rotate_left; (· first | (simp; done) | (simp; omega) | omega))))⟩
        case measure => simp [intOf]; omega
      · go_wp2_with (go_at_call 51; refine (HD.out _).mono ?_; rintro e w6 ⟨rfl, hb6⟩; obtain ⟨hc6, hf6⟩ := ifs_of hb6; have hs6 := hb6.size; (try simp at hs6))
        go_roundw
        case rel =>
          have x1 := HO.out
          have x2 := HX.out
          have x3 := HRR.out
          exact ⟨k + 1, by omega, by go_num, by rw [T1.out, T2.out, Int.add_zero]; exact (by repeat (first | (with_reducible assumption) | ((with_reducible apply Blk.new_at); (first | (simp; done) | (simp; omega))) | (with_reducible apply Blk.drew) | (with_reducible refine Blk.alloc ?_ _) | (with_reducible apply blk_two) | ((with_reducible refine blk_far ?_ ?_ _); (· first | (simp; done) | (simp; omega) | omega)) | ((with_reducible apply blk_kept); (· with_reducible assumption)))), (by repeat (first | (with_reducible assumption) | ((with_reducible apply Blk.new_at); (first | (simp; done) | (simp; omega))) | (with_reducible apply Blk.drew) | (with_reducible refine Blk.alloc ?_ _) | (with_reducible apply blk_two) | ((with_reducible refine blk_far ?_ ?_ _); (· first | (simp; done) | (simp; omega) | omega)) | ((with_reducible apply blk_kept); (· with_reducible assumption)))), (by repeat (first | (with_reducible assumption) | ((with_reducible apply Blk.new_at); (first | (simp; done) | (simp; omega))) | (with_reducible apply Blk.drew) | (with_reducible refine Blk.alloc ?_ _) | (with_reducible apply blk_two) | ((with_reducible refine blk_far ?_ ?_ _); (· first | (simp; done) | (simp; omega) | omega)) | ((with_reducible apply blk_kept); (· with_reducible assumption)))), (by repeat (first | (with_reducible exact Below.refl _ _) | (with_reducible assumption) | ((with_reducible refine Below.alloc ?_ ?_ _); rotate_left; (· first | (simp; done) | (simp; omega) | omega)) | ((with_reducible refine Below.setCell ?_ ?_ _); rotate_left; (· first | (simp; done) | (simp; omega) | omega)) | (with_reducible apply Below.drew) | ((with_reducible apply below_step); (· with_reducible assumption); rotate_left; (· first | (simp; done) | (simp; omega) | omega))))⟩
        case measure => simp [intOf]; omega
    · obtain rfl : k = n := by omega
      have vo := hO.cell
      have rr := hR.cell
      have fr := hR.frozen
      have E : zs.take k = zs := List.take_of_length_le (by rw [Hl.out]; exact Nat.le_refl _)
      rw [E] at vo
      clear hO hX hR E
      go_wp2
      exact bodyPost_ret (by first | (simp [results, Tryd.results20, go_sem, *]; done) | (simp [results, Tryd.results20, go_sem, *, ↓IntWalk.iteOmega]; done) | (simp [results, Tryd.results20, go_sem, *]; (repeat' apply And.intro) <;> rfl) | (simp [results, Tryd.results20, go_sem, *, ↓IntWalk.iteOmega]; (repeat' apply And.intro) <;> rfl)) rfl ⟨rfl, (by repeat (first | (with_reducible exact Below.refl _ _) | (with_reducible assumption) | ((with_reducible refine Below.alloc ?_ ?_ _); rotate_left; (· first | (simp; done) | (simp; omega) | omega)) | ((with_reducible refine Below.setCell ?_ ?_ _); rotate_left; (· first | (simp; done) | (simp; omega) | omega)) | (with_reducible apply Below.drew) | ((with_reducible apply below_step); (· with_reducible assumption); rotate_left; (· first | (simp; done) | (simp; omega) | omega))))⟩
end Go.Proofs.YtjakigncloleaaaDoor
