/- Rows of the call's own: cells set in place; an element cut out. -/
import Derived.Test.YtphlojgmfkgeiaaGreatDoorKe
import Derived.Lib.SliceRun
import Derived.Deep.RegionLaw
import Derived.Laws.OwnMore
namespace Go.Proofs.YtphlojgmfkgeiaaGreatDoor
open Go Go.RowKit
def setL {α : Type} : List α → Nat → List α → List α
  | xs, _, [] => xs
  | xs, o, v :: r => setL (xs.set o v) (o + 1) r
theorem setL_eq {α : Type} : ∀ (vs xs : List α) (o : Nat), o + vs.length ≤ xs.length → setL xs o vs = xs.take o ++ (vs ++ xs.drop (o + vs.length))
  | [], xs, o, _ => by simp [setL]
  | v :: r, xs, o, h => by
    simp only [List.length_cons] at h
    unfold setL
    rw [setL_eq r (xs.set o v) (o + 1) (by rw [List.length_set]; omega)]
    have h1 : (xs.set o v).take (o + 1) = xs.take o ++ [v] := by
      rw [List.take_add_one, List.take_set_of_le (Nat.le_refl _), List.getElem?_set_self (by omega)]
      rfl
    have h2 : (xs.set o v).drop (o + 1 + r.length) = xs.drop (o + (v :: r).length) := by
      rw [List.drop_set_of_lt (by omega), List.length_cons, show o + 1 + r.length = o + (r.length + 1) by omega]
    rw [h1, h2]
    simp
section
variable {base e size g n cap : Nat}
theorem grown_set {w w1 w2 : World} {r : Option Nat} (h : w.grownBy w1 r) (k : w1.grownBy w2 r) : w.grownBy w2 r :=
  ⟨k.os.trans h.os, k.tape.trans h.tape, k.output.trans h.output, Nat.le_trans h.size k.size, fun i hi hn => (k.block i (Nat.lt_of_lt_of_le hi h.size) hn).trans (h.block i hi hn)⟩
theorem own_setCells : ∀ (vs : List Value) (o : Nat) (w : World) (xs : List Value), Own w base e size g n cap xs → Own (w.setCells g o vs) base e size g n cap (setL xs o vs) ∧ w.grownBy (w.setCells g o vs) (some g)
  | [], _, _, _, h => ⟨h, ⟨rfl, rfl, rfl, Nat.le_refl _, fun _ _ _ => rfl⟩⟩
  | v :: r, o, w, xs, h => by
    obtain ⟨h1, h2⟩ := World.ownsRow.stored h o v
    obtain ⟨h3, h4⟩ := own_setCells r (o + 1) (w.setCell ⟨g, o, none⟩ v) (xs.set o v) h1
    exact ⟨h3, grown_set h2 h4⟩
theorem own_shrink {w : World} {m : Nat} {xs : List Value} (h : Own w base e size g n cap xs) (hm : m ≤ n) : Own w base e size g m cap (xs.take (m * size)) := by
  have hl := h.len
  rcases h.2 with ⟨h', _⟩ | ⟨g', cap', cur, h', hb, hg, hnc, hcm, hcs, htake⟩
  · cases h'
  · simp only [Value.slice.injEq, Option.some.injEq, Addr.mk.injEq, and_true, true_and] at h'
    obtain ⟨rfl, rfl⟩ := h'
    have hms : m * size ≤ n * size := Nat.mul_le_mul_right _ hm
    refine ⟨by rw [List.length_take, hl]; omega, .inr ⟨g, cap, cur, rfl, hb, hg, by omega, hcm, hcs, ?_⟩⟩
    rw [← htake, List.take_take, Nat.min_eq_left hms]
/-- Cells set behind the row's end do not touch it. -/
theorem own_cap {w : World} {xs : List Value} (h : Own w base e size g n cap xs) : n ≤ cap ∧ cap ≤ maxLen := by
  rcases h.2 with ⟨h', _⟩ | ⟨g', cap', cur, h', hb, hg, hnc, hcm, hcs, htake⟩
  · cases h'
  · simp only [Value.slice.injEq, Option.some.injEq, Addr.mk.injEq, and_true, true_and] at h'
    obtain ⟨rfl, rfl⟩ := h'
    exact ⟨hnc, hcm⟩
theorem own_live {w : World} {xs : List Value} (h : Own w base e size g n cap xs) : ∀ j, j < n * size → w.cell? ⟨g, j, none⟩ = xs[j]? ∧ (w.cell? ⟨g, j, none⟩).isSome = true ∧ w.frozen? ⟨g, j, none⟩ = false := by
  intro j hj
  have hl := h.len
  have h1 := World.ownsRow.cellAt h j (by omega)
  refine ⟨h1, ?_, World.ownsRow.frozenAt h j⟩
  rw [h1, List.getElem?_eq_getElem (by omega)]
  rfl
end
theorem flat_take {α β : Type} {f : α → List β} {m : Nat} (hf : ∀ x, (f x).length = m) : ∀ (l : List α) (k : Nat), (l.flatMap f).take (k * m) = (l.take k).flatMap f
  | [], k => by simp
  | x :: r, 0 => by simp
  | x :: r, k + 1 => by
    rw [List.flatMap_cons, List.take_succ_cons, List.flatMap_cons, List.take_append, hf, List.take_of_length_le (by rw [hf, Nat.succ_mul]; omega), show (k + 1) * m - m = k * m by rw [Nat.succ_mul]; omega, flat_take hf r k]
theorem pms_len (l : List Pm) : (pms l).length = l.length * 2 := flat_len (f := Pm.cells) (m := 2) (fun _ => rfl) l
theorem pms_app (a b : List Pm) : pms (a ++ b) = pms a ++ pms b := by unfold pms; rw [List.flatMap_append]
theorem pms_erase (l : List Pm) (i : Nat) (hi : i < l.length) : (setL (pms l) (i * 2) (pms (l.drop (i + 1)))).take ((l.length - 1) * 2) = pms (l.eraseIdx i) := by
  have hlen : (pms (l.drop (i + 1))).length = (l.length - (i + 1)) * 2 := by rw [pms_len, List.length_drop]
  rw [setL_eq _ _ _ (by rw [hlen, pms_len]; omega)]
  have h1 : (pms l).take (i * 2) = pms (l.take i) := flat_take (f := Pm.cells) (m := 2) (fun _ => rfl) l i
  have h2 : pms (l.eraseIdx i) = pms (l.take i) ++ pms (l.drop (i + 1)) := by rw [List.eraseIdx_eq_take_drop_succ, pms_app]
  rw [h1, h2, ← List.append_assoc]
  have h3 : (pms (l.take i) ++ pms (l.drop (i + 1))).length = (l.length - 1) * 2 := by
    rw [List.length_append, hlen, pms_len, List.length_take]
    omega
  exact List.take_left' h3
theorem own_erase {w : World} {base g cap i : Nat} {e : TypeId} {l : List Pm} (h : Own w base e 2 g l.length cap (pms l)) (hi : i < l.length) : Own (w.setCells g (i * 2) (pms (l.drop (i + 1)))) base e 2 g (l.length - 1) cap (pms (l.eraseIdx i)) ∧ w.grownBy (w.setCells g (i * 2) (pms (l.drop (i + 1)))) (some g) := by
  obtain ⟨h1, h2⟩ := own_setCells (pms (l.drop (i + 1))) (i * 2) w _ h
  have h3 := own_shrink h1 (m := l.length - 1) (by omega)
  rw [pms_erase l i hi] at h3
  exact ⟨h3, h2⟩
/-- What an append in place wants to know of the cells behind an element that is cut out. -/
theorem erase_cells {w : World} {base g cap i : Nat} {e : TypeId} {l : List Pm} (h : Own w base e 2 g l.length cap (pms l)) (hi : i < l.length) : ∃ A : Addr, (if cap = i + 1 then some (⟨g, 0, none⟩ : Addr) else some ⟨g, (i + 1) * 2, none⟩) = some A ∧ Hid (∀ j u, (pms (l.drop (i + 1)))[j]? = some u → w.cell? (A.add j) = some u) ∧ Hid (∀ j, j < (pms (l.drop (i + 1))).length → (w.cell? ⟨g, 0 + i * 2 + j, none⟩).isSome = true ∧ w.frozen? ⟨g, 0 + i * 2 + j, none⟩ = false) := by
  obtain ⟨hcap, hm⟩ := own_cap h
  have hlive := own_live h
  have hlen : (pms (l.drop (i + 1))).length = (l.length - (i + 1)) * 2 := by rw [pms_len, List.length_drop]
  have h4 : Hid (∀ j, j < (pms (l.drop (i + 1))).length → (w.cell? ⟨g, 0 + i * 2 + j, none⟩).isSome = true ∧ w.frozen? ⟨g, 0 + i * 2 + j, none⟩ = false) := by
    intro j hj
    rw [hlen] at hj
    rw [Nat.zero_add]
    exact (hlive (i * 2 + j) (by omega)).2
  by_cases hc : cap = i + 1
  · refine ⟨⟨g, 0, none⟩, by simp [hc], fun j u hu => ?_, h4⟩
    have := (List.getElem?_eq_some_iff.1 hu).1
    omega
  · refine ⟨⟨g, (i + 1) * 2, none⟩, by simp [hc], fun j u hu => ?_, h4⟩
    have hj := (List.getElem?_eq_some_iff.1 hu).1
    rw [Addr.add_lit, (hlive ((i + 1) * 2 + j) (by omega)).1]
    have h5 : pms (l.drop (i + 1)) = (pms l).drop ((i + 1) * 2) := by
      have h6 : pms l = pms (l.take (i + 1)) ++ pms (l.drop (i + 1)) := by
        conv => lhs; rw [← List.take_append_drop (i + 1) l]
        exact pms_app _ _
      have h7 : (pms (l.take (i + 1))).length = (i + 1) * 2 := by rw [pms_len, List.length_take]; omega
      exact (congrArg (List.drop ((i + 1) * 2)) h6).trans (List.drop_left' h7) |>.symm
    rw [h5, List.getElem?_drop] at hu
    exact hu
theorem setL_take {α : Type} {xs vs : List α} {o : Nat} (h : o + vs.length ≤ xs.length) : (setL xs o vs).take o = xs.take o := by
  rw [setL_eq _ _ _ h]
  exact List.take_left' (by rw [List.length_take]; omega)
theorem setL_len {α : Type} : ∀ (vs xs : List α) (o : Nat), (setL xs o vs).length = xs.length
  | [], _, _ => rfl
  | _ :: r, xs, o => by unfold setL; rw [setL_len r]; simp
theorem pmZero : (Tryz.prog.info? 117).bind (·.zero) = some (.agg #[.string ⟨#[]⟩, .int .i64 0]) := by kernel_rfl
/-- clear of one permit. -/
theorem run_clear_pm {w : World} {g o c : Nat} (hc : ∀ j, j < 2 → (w.cell? ⟨g, o + j, none⟩).isSome = true ∧ w.frozen? ⟨g, o + j, none⟩ = false) :
    (Builtin.clear_ #[39] 0 #[.slice (some ⟨g, o, none⟩) 1 c]).run Tryz.prog w = .ok (.tuple #[]) (w.setCells g o [.string ⟨#[]⟩, .int .i64 0]) := by
  obtain ⟨i0, h1, h2⟩ := Option.bind_eq_some_iff.1 pmZero
  have hst := run_storeCells_cells (P := Tryz.prog) g o [.string ⟨#[]⟩, .int .i64 0] 0 w (fun j hj => by simpa using (hc j hj).1) (fun j hj => by simpa using (hc j hj).2) (by intro v hv; simp at hv; rcases hv with rfl | rfl <;> rfl)
  simp only [Nat.add_zero] at hst
  have hzc : (Builtin.zeroCells (Value.agg #[.string ⟨#[]⟩, .int .i64 0]).cells 1).toList = [.string ⟨#[]⟩, .int .i64 0] := by kernel_rfl
  simp [Builtin.clear_, run_underlying Tryz.underlying39, zeroValue, typeInfo, h1, h2, hzc, hst]
set_option maxHeartbeats 2000000 in
set_option maxRecDepth 1000000 in
theorem Delete_any (base g cap i : Nat) (l : List Pm) (w : World) (hO : Own w base 117 2 g l.length cap (pms l)) (hi : i < l.length) :
    Calls Tryz.prog 139 #[.slice (some ⟨g, 0, none⟩) l.length cap, .int .i64 (i : Int), .int .i64 ((i : Int) + 1)] w fun e w' => e = .returned (.slice (some ⟨g, 0, none⟩) (l.length - 1) cap) ∧ Own w' base 117 2 g (l.length - 1) cap (pms (l.eraseIdx i)) ∧ w.grownBy w' (some g) := by
  obtain ⟨hcap, hm⟩ := own_cap hO
  obtain ⟨ht, ⟨i0, z0, hi0, hz0, hz1, hz2, hz3⟩, hp⟩ := elemPm
  obtain ⟨A, hA, hnews, hlive⟩ := erase_cells (w := w.drew) hO.drew hi
  have hX := own_setCells (pms (l.drop (i + 1))) (i * 2) w.drew _ hO.drew
  have s1 : Hid ((pms (l.drop (i + 1))).length = (l.length - (i + 1)) * 2) := by show _ = _; rw [pms_len, List.length_drop]
  have s2 : Hid (∀ u ∈ pms (l.drop (i + 1)), u.oneCell' = true) := pms_one _
  have HX := Lib.hid hX
  clear hO hX
  unfold maxLen at hm
  have hwr : IntKind.i64.wrap ((i : Int) + 1) = (i : Int) + 1 := by rw [IntKind.wrap_i64]; omega
  have hp0 : (0 : Int) ≤ (i : Int) + 1 := by omega
  have hp1 : (i : Int) + 1 ≤ (l.length : Int) := by omega
  have hp2 : ((i : Int) + 1).toNat = i + 1 := by omega
  have hic : i ≤ cap := by omega
  go_enter Tryz.func139, Tryz.ntmps139
  go_wp2_with fail
  go_region_law (refine step_append_room rfl (.tmp 22) (.tmp 25) 39 rfl 117 i0 2 ht hi0 hz1 g 0 i cap (by simp [Act.eval, Act.put]) A (l.length - (i + 1)) (cap - (i + 1)) (pms (l.drop (i + 1))) (by simp [Act.eval, Act.put]) s1.out hnews.out s2.out (by omega) hlive.out ?_)
  generalize w.drew.setCells g (i * 2) (pms (l.drop (i + 1))) = W1 at *
  have hone : l.length - (i + (l.length - (i + 1))) = 1 := by omega
  have hcl : (Builtin.clear_ #[39] 0 #[.slice (some ⟨g, (i + (l.length - (i + 1))) * 2, none⟩) 1 (cap - (i + (l.length - (i + 1))))]).run Tryz.prog W1 = .ok (.tuple #[]) (W1.setCells g ((l.length - 1) * 2) [.string ⟨#[]⟩, .int .i64 0]) := by
    rw [show i + (l.length - (i + 1)) = l.length - 1 by omega]
    exact run_clear_pm (fun j hj => (own_live HX.out.1 _ (by omega)).2)
  go_wp2_with fail
  go_ret
  rw [show i + (l.length - (i + 1)) = l.length - 1 by omega]
  obtain ⟨h1, h2⟩ := HX.out
  obtain ⟨h3, h4⟩ := own_setCells [.string ⟨#[]⟩, .int .i64 0] ((l.length - 1) * 2) W1 _ h1
  have h5 := own_shrink h3 (m := l.length - 1) (by omega)
  rw [setL_take (by rw [setL_len, pms_len]; simp; omega), pms_erase l i hi] at h5
  have h6 := grown_set h2 h4
  exact ⟨rfl, h5, ⟨h6.os, h6.tape, h6.output, h6.size, h6.block⟩⟩
end Go.Proofs.YtphlojgmfkgeiaaGreatDoor
