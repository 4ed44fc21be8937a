/- The law TopShackleHeat. -/
import Derived.Test.YtjakigncloleaaaDoorR3
import Derived.Test.YtjakigncloleaaaDoorM2
import Derived.Test.YtjakigncloleaaaDoorH8
import Derived.Deep.DeepCutAuto
import Derived.Deep.RegionWith
import Derived.Deep.DrawnRows
namespace Go.Proofs.YtjakigncloleaaaDoor
open Go.RowKit Go.Sort
set_option linter.unusedSimpArgs false
set_option linter.unusedVariables false
attribute [local go_sem] cell_if frozen_if grow_cell
attribute [local go_sem ↓] Go.wp_at_zero Go.wp_at_succ
def abV (p : Nat → Int) (k j : Nat) : Int := if j < k then ab (p j) else p j
theorem abV_succ (p : Nat → Int) (k : Nat) : ∀ j, j < 12 → abV p (k + 1) j = if j = k then abV p (k + 1) k else abV p k j := by
  intro j _
  unfold abV
  by_cases h : j = k
  · rw [if_pos h, h]
  · rw [if_neg h]
    by_cases h2 : j < k
    · rw [if_pos h2, if_pos (by omega)]
    · rw [if_neg h2, if_neg (by omega)]
theorem abV_here (p : Nat → Int) (k : Nat) : abV p (k + 1) k = ab (p k) := by unfold abV; rw [if_pos (by omega)]
theorem own_set {w : World} {base e size g o n : Nat} {v u : Value} {xs : List Value} (h : w.ownsRow base e size v n xs) (hg : g < base) : (w.setCell ⟨g, o, none⟩ u).ownsRow base e size v n xs := by
  obtain ⟨h1, h2⟩ := h
  refine ⟨h1, ?_⟩
  rcases h2 with h2 | ⟨g', cap', cur, hv, hb, hh, r⟩
  · exact .inl h2
  · exact .inr ⟨g', cap', cur, hv, hb, (Below.heap_setCell w ⟨g, o, none⟩ u g' (by simp; omega)).trans hh, r⟩
theorem own_ne {w : World} {base e size g n : Nat} {v : Value} {xs : List Value} (h : w.ownsRow base e size v n xs) (hg : g < base) : v.ownBlock ≠ some g := by
  rcases h.2 with ⟨rfl, _⟩ | ⟨g', cap', cur, rfl, hb, hh, r⟩
  · simp [Value.ownBlock]
  · simp [Value.ownBlock]; omega
theorem qL_get (q : Nat → Int) {k : Nat} (h : k < 12) : ((qL q).map (Value.int .i64))[k]? = some (.int .i64 (q k)) := by
  rcases lt12 h with rfl | rfl | rfl | rfl | rfl | rfl | rfl | rfl | rfl | rfl | rfl | rfl <;> rfl
theorem dlV_in {q : Nat → Int} (hq : ∀ j, j < 12 → 0 ≤ q j ∧ q j ≤ 100) (n : Int) (j : Nat) : 0 ≤ dlV q n 12 j ∧ dlV q n 12 j ≤ 100 := by
  have h : shD n j < 12 := by unfold shD; omega
  unfold dlV
  rw [if_pos h]
  exact hq _ h
theorem row_one (zs : List Int) : ∀ u ∈ zs.map (Value.int .i64), u.oneCell' = true := fun u hu => by
  obtain ⟨z, _, rfl⟩ := List.mem_map.1 hu
  rfl
theorem ab_neg {x : Int} (h : x < -x) : ab x = -x := if_pos h
theorem ab_pos {x : Int} (h : ¬ x < -x) : ab x = x := if_neg h
theorem elemInt : Elem Tryd.prog 53 3 1 8 := elem_of Tryd.underlying53 (z := .int .i64 0) (by kernel_rfl) rfl (by decide)
set_option maxRecDepth 100000 in
set_option maxHeartbeats 40000000 in
theorem heat_any (p : Nat → Int) (F L S d : Int) (w : World) (hP : Powers w) (hd : -128 ≤ d ∧ d ≤ 127) :
    Calls Tryd.prog 4 #[.agg #[.int .i64 (p 0), .int .i64 (p 1), .int .i64 (p 2), .int .i64 (p 3), .int .i64 (p 4), .int .i64 (p 5), .int .i64 (p 6), .int .i64 (p 7), .int .i64 (p 8), .int .i64 (p 9), .int .i64 (p 10), .int .i64 (p 11)], .agg #[.int .i64 F, .int .i64 L, .int .i64 S], .int .i8 d] w fun e w' => e = .returned (.bool true) ∧ Below w.heap.size w w' := by
  go_enter Tryd.func4, Tryd.ntmps4
  go_wp2_with fail
  refine (rPattern_any p _).mono ?_
  rintro e w1 ⟨z1, rfl, hz1, hb1⟩
  obtain ⟨hc1, hf1⟩ := ifs_of hb1; have hs1 := hb1.size; (try simp at hs1)
  have HZ1 := Lib.hid hz1
  clear hz1
  by_cases h1 : z1 = 0
  · subst h1
    go_wp2_with fail
    refine (rLosses_any F L S _).mono ?_
    rintro e w2 ⟨z2, rfl, hz2, hb2⟩
    obtain ⟨hc2, hf2⟩ := ifs_of hb2; have hs2 := hb2.size; (try simp at hs2)
    have HZ2 := Lib.hid hz2
    clear hz2
    by_cases h2 : z2 = 0
    · subst h2
      have hpp := HZ1.out (by first | trivial | rfl)
      have hls := HZ2.out (by first | trivial | rfl)
      have HPP := Lib.hid hpp
      clear HZ1 HZ2
      have ha := fun j hj => ab_range (hpp j hj)
      have HA := Lib.hid ha
      clear ha hpp
      have hix : ∀ (k : Nat), k < 12 → ∀ w, (Instr.index 48 (.agg #[.int .i64 (p 0), .int .i64 (p 1), .int .i64 (p 2), .int .i64 (p 3), .int .i64 (p 4), .int .i64 (p 5), .int .i64 (p 6), .int .i64 (p 7), .int .i64 (p 8), .int .i64 (p 9), .int .i64 (p 10), .int .i64 (p 11)]) (.int .i64 k)).run Tryd.prog w = .ok (.int .i64 (p k)) w := fun k hk w => p12_index p hk w
      have HIX := Lib.hid hix
      clear hix
      obtain ⟨q, hq⟩ : ∃ q : Nat → Int, ∀ j, q j = ab (p j) := ⟨fun j => ab (p j), fun _ => rfl⟩
      have HQ := Lib.hid hq
      have hqr : ∀ j, j < 12 → 0 ≤ q j ∧ q j ≤ 100 := fun j hj => by rw [hq]; exact HA.out j hj
      have HQR := Lib.hid hqr
      clear hq hqr HA
      go_wp2_with fail
      have hz2 : w.heap.size + 2 ≤ w2.heap.size := by omega
      go_loopw [7, 8, 9, 10, 11, 42] (fun v s7 s8 _ _ i wr => ∃ k : Nat, k ≤ 12 ∧ i = .int .i64 k ∧ s7 = .int .i64 (sumS q k) ∧ s8 = .int .i64 (sumS (fun j => one (q j)) k) ∧ wr.ownsRow (w.heap.size + 2) 3 1 v k (((qL q).map (.int .i64)).take k) ∧ Blk wr w.heap.size 48 #[.int .i64 ((abV p k) 0), .int .i64 ((abV p k) 1), .int .i64 ((abV p k) 2), .int .i64 ((abV p k) 3), .int .i64 ((abV p k) 4), .int .i64 ((abV p k) 5), .int .i64 ((abV p k) 6), .int .i64 ((abV p k) 7), .int .i64 ((abV p k) 8), .int .i64 ((abV p k) 9), .int .i64 ((abV p k) 10), .int .i64 ((abV p k) 11)] ∧ Blk wr (w.heap.size + 1) 50 #[.int .i64 F, .int .i64 L, .int .i64 S] ∧ w.heap.size + 2 ≤ wr.heap.size ∧ Below w.heap.size w wr) (fun _ _ _ _ _ i _ => 12 - (intOf i).toNat)
      case atStart =>
        have z0 : ∀ j, abV p 0 j = p j := fun j => if_neg (by omega)
        exact ⟨0, by omega, rfl, rfl, rfl, World.ownsRow_nil _ _ _ _, (by simp only [z0]; exact (by repeat (first | (with_reducible assumption) | ((with_reducible apply Blk.new_at); (first | (simp; done) | (simp; omega))) | (with_reducible apply Blk.drew) | (with_reducible refine Blk.alloc ?_ _) | (with_reducible apply blk_two) | ((with_reducible refine blk_far ?_ ?_ _); (· first | (simp; done) | (simp; omega) | omega)) | ((with_reducible apply blk_kept); (· with_reducible assumption))))), (by repeat (first | (with_reducible assumption) | ((with_reducible apply Blk.new_at); (first | (simp; done) | (simp; omega))) | (with_reducible apply Blk.drew) | (with_reducible refine Blk.alloc ?_ _) | (with_reducible apply blk_two) | ((with_reducible refine blk_far ?_ ?_ _); (· first | (simp; done) | (simp; omega) | omega)) | ((with_reducible apply blk_kept); (· with_reducible assumption)))), hz2, (by repeat (first | (with_reducible exact Below.refl _ _) | (with_reducible assumption) | ((with_reducible refine Below.alloc ?_ ?_ _); rotate_left; (· first | (simp; done) | (simp; omega) | omega)) | ((with_reducible refine Below.setCell ?_ ?_ _); rotate_left; (· first | (simp; done) | (simp; omega) | omega)) | (with_reducible apply Below.drew) | ((with_reducible apply below_step); (· with_reducible assumption); rotate_left; (· first | (simp; done) | (simp; omega) | omega))))⟩
      case round =>
        obtain ⟨k, hk, rfl, rfl, rfl, hown, hB, hX, hsz, hb⟩ := hrel
        have HB := Lib.hid hB
        have HX := Lib.hid hX
        have HO := Lib.hid hown
        clear hown
        by_cases hlt : k < 12
        · have hi := HIX.out k hlt
          obtain ⟨x1, x2⟩ := HPP.out k hlt
          have a12 := HQR.out k hlt
          have ek := HQ.out k
          rw [ek] at a12
          obtain ⟨a1, a2⟩ := a12
          have b1 := sumS_bd HQR.out k hk
          have b2 := sumS_bd (f := fun j => one (q j)) (M := 1) (fun j hj => one_range (HQR.out j hj)) k hk
          obtain ⟨b11, b12⟩ := b1
          obtain ⟨b21, b22⟩ := b2
          have T1 : Hid (sumS q (k + 1) = sumS q k + ab (p k)) := by show _ = _; rw [← ek]; rfl
          have T2 : Hid (sumS (fun j => one (q j)) (k + 1) = sumS (fun j => one (q j)) k + one (ab (p k))) := by show _ = _; rw [← ek]; rfl
          have T3 : Hid (((qL q).map (Value.int .i64)).take (k + 1) = ((qL q).map (Value.int .i64)).take k ++ [.int .i64 (ab (p k))]) := by
            show _ = _
            rw [← ek]
            rcases lt12 hlt with rfl | rfl | rfl | rfl | rfl | rfl | rfl | rfl | rfl | rfl | rfl | rfl <;> rfl
          have hS := p12_set hlt hB (abV_succ p k)
          have AH := abV_here p k
          rw [AH] at hS
          have HS := Lib.hid hS
          have hc := p12_at hB hlt
          have fB := hB.frozen
          have lB := hB.lt
          have lX := hX.lt
          clear hS hB hX
          clear ek
          generalize sumS q k = s at *
          generalize sumS (fun j => one (q j)) k = m at *
          generalize abV p k k = old at *
          generalize hpk : p k = x at *
          clear hpk
          have HO2 := Lib.hid (own_set (g := w.heap.size) (o := k) (u := .int .i64 (ab x)) HO.out (by omega))
          by_cases hx : x < -x
          · have ea := ab_neg hx
            rw [ea] at HO2 HS T1 T2 T3 AH a1 a2
            clear ea
            by_cases h1 : 1 < -x
            · as_aux_lemma =>
                have eo : one (-x) = 1 := if_pos h1
                rw [eo] at T2
                clear eo
                go_wp2_with (at_builtin; refine wpList_app 53 3 1 8 elemInt rfl (.tmp 52) (.tmp 56) rfl (w.heap.size + 2) _ k _ rfl HO2.out 1 (by show Value.slice (some ⟨wr.heap.size, 0, none⟩) 1 1 = _; simp) rfl ?h1 (by decide) ?h3 (by omega) (by simpa using hsz) ?_)
                case h1 => rfl
                case h3 => unfold maxLen; omega
                intro g' cap' w' hown' hb' hk' hs'
                have HS2 := Lib.hid (hk' _ _ _ (HS.out) (own_ne HO2.out (by omega)))
                have HX2 := Lib.hid (hk' _ _ _ (HX.out.far (by first | (simp; done) | (simp; omega)) _) (own_ne HO2.out (by omega)))
                have hcc := p12_at HS2.out hlt
                rw [AH] at hcc
                have hbw : Below w.heap.size w w' := (by repeat (first | (with_reducible exact Below.refl _ _) | (with_reducible assumption) | ((with_reducible refine Below.alloc ?_ ?_ _); rotate_left; (· first | (simp; done) | (simp; omega) | omega)) | ((with_reducible refine Below.setCell ?_ ?_ _); rotate_left; (· first | (simp; done) | (simp; omega) | omega)) | (with_reducible apply Below.drew) | ((with_reducible apply below_step); (· with_reducible assumption); rotate_left; (· first | (simp; done) | (simp; omega) | omega))))
                go_wp2
                go_roundw
                case rel => exact ⟨k + 1, by omega, by go_num, by rw [T1.out], by rw [T2.out], by rw [T3.out]; exact hown', HS2.out, HX2.out, by omega, (by repeat (first | (with_reducible exact Below.refl _ _) | (with_reducible assumption) | ((with_reducible refine Below.alloc ?_ ?_ _); rotate_left; (· first | (simp; done) | (simp; omega) | omega)) | ((with_reducible refine Below.setCell ?_ ?_ _); rotate_left; (· first | (simp; done) | (simp; omega) | omega)) | (with_reducible apply Below.drew) | ((with_reducible apply below_step); (· with_reducible assumption); rotate_left; (· first | (simp; done) | (simp; omega) | omega))))⟩
                case measure => simp [intOf]; omega
            · as_aux_lemma =>
                have eo : one (-x) = -x := if_neg h1
                rw [eo] at T2
                clear eo
                go_wp2_with (at_builtin; refine wpList_app 53 3 1 8 elemInt rfl (.tmp 52) (.tmp 56) rfl (w.heap.size + 2) _ k _ rfl HO2.out 1 (by show Value.slice (some ⟨wr.heap.size, 0, none⟩) 1 1 = _; simp) rfl ?h1 (by decide) ?h3 (by omega) (by simpa using hsz) ?_)
                case h1 => rfl
                case h3 => unfold maxLen; omega
                intro g' cap' w' hown' hb' hk' hs'
                have HS2 := Lib.hid (hk' _ _ _ (HS.out) (own_ne HO2.out (by omega)))
                have HX2 := Lib.hid (hk' _ _ _ (HX.out.far (by first | (simp; done) | (simp; omega)) _) (own_ne HO2.out (by omega)))
                have hcc := p12_at HS2.out hlt
                rw [AH] at hcc
                have hbw : Below w.heap.size w w' := (by repeat (first | (with_reducible exact Below.refl _ _) | (with_reducible assumption) | ((with_reducible refine Below.alloc ?_ ?_ _); rotate_left; (· first | (simp; done) | (simp; omega) | omega)) | ((with_reducible refine Below.setCell ?_ ?_ _); rotate_left; (· first | (simp; done) | (simp; omega) | omega)) | (with_reducible apply Below.drew) | ((with_reducible apply below_step); (· with_reducible assumption); rotate_left; (· first | (simp; done) | (simp; omega) | omega))))
                go_wp2
                go_roundw
                case rel => exact ⟨k + 1, by omega, by go_num, by rw [T1.out], by rw [T2.out], by rw [T3.out]; exact hown', HS2.out, HX2.out, by omega, (by repeat (first | (with_reducible exact Below.refl _ _) | (with_reducible assumption) | ((with_reducible refine Below.alloc ?_ ?_ _); rotate_left; (· first | (simp; done) | (simp; omega) | omega)) | ((with_reducible refine Below.setCell ?_ ?_ _); rotate_left; (· first | (simp; done) | (simp; omega) | omega)) | (with_reducible apply Below.drew) | ((with_reducible apply below_step); (· with_reducible assumption); rotate_left; (· first | (simp; done) | (simp; omega) | omega))))⟩
                case measure => simp [intOf]; omega
          · have ea := ab_pos hx
            rw [ea] at HO2 HS T1 T2 T3 AH a1 a2
            clear ea
            by_cases h1 : 1 < x
            · as_aux_lemma =>
                have eo : one (x) = 1 := if_pos h1
                rw [eo] at T2
                clear eo
                go_wp2_with (at_builtin; refine wpList_app 53 3 1 8 elemInt rfl (.tmp 52) (.tmp 56) rfl (w.heap.size + 2) _ k _ rfl HO2.out 1 (by show Value.slice (some ⟨wr.heap.size, 0, none⟩) 1 1 = _; simp) rfl ?h1 (by decide) ?h3 (by omega) (by simpa using hsz) ?_)
                case h1 => rfl
                case h3 => unfold maxLen; omega
                intro g' cap' w' hown' hb' hk' hs'
                have HS2 := Lib.hid (hk' _ _ _ (HS.out) (own_ne HO2.out (by omega)))
                have HX2 := Lib.hid (hk' _ _ _ (HX.out.far (by first | (simp; done) | (simp; omega)) _) (own_ne HO2.out (by omega)))
                have hcc := p12_at HS2.out hlt
                rw [AH] at hcc
                have hbw : Below w.heap.size w w' := (by repeat (first | (with_reducible exact Below.refl _ _) | (with_reducible assumption) | ((with_reducible refine Below.alloc ?_ ?_ _); rotate_left; (· first | (simp; done) | (simp; omega) | omega)) | ((with_reducible refine Below.setCell ?_ ?_ _); rotate_left; (· first | (simp; done) | (simp; omega) | omega)) | (with_reducible apply Below.drew) | ((with_reducible apply below_step); (· with_reducible assumption); rotate_left; (· first | (simp; done) | (simp; omega) | omega))))
                go_wp2
                go_roundw
                case rel => exact ⟨k + 1, by omega, by go_num, by rw [T1.out], by rw [T2.out], by rw [T3.out]; exact hown', HS2.out, HX2.out, by omega, (by repeat (first | (with_reducible exact Below.refl _ _) | (with_reducible assumption) | ((with_reducible refine Below.alloc ?_ ?_ _); rotate_left; (· first | (simp; done) | (simp; omega) | omega)) | ((with_reducible refine Below.setCell ?_ ?_ _); rotate_left; (· first | (simp; done) | (simp; omega) | omega)) | (with_reducible apply Below.drew) | ((with_reducible apply below_step); (· with_reducible assumption); rotate_left; (· first | (simp; done) | (simp; omega) | omega))))⟩
                case measure => simp [intOf]; omega
            · as_aux_lemma =>
                have eo : one (x) = x := if_neg h1
                rw [eo] at T2
                clear eo
                go_wp2_with (at_builtin; refine wpList_app 53 3 1 8 elemInt rfl (.tmp 52) (.tmp 56) rfl (w.heap.size + 2) _ k _ rfl HO2.out 1 (by show Value.slice (some ⟨wr.heap.size, 0, none⟩) 1 1 = _; simp) rfl ?h1 (by decide) ?h3 (by omega) (by simpa using hsz) ?_)
                case h1 => rfl
                case h3 => unfold maxLen; omega
                intro g' cap' w' hown' hb' hk' hs'
                have HS2 := Lib.hid (hk' _ _ _ (HS.out) (own_ne HO2.out (by omega)))
                have HX2 := Lib.hid (hk' _ _ _ (HX.out.far (by first | (simp; done) | (simp; omega)) _) (own_ne HO2.out (by omega)))
                have hcc := p12_at HS2.out hlt
                rw [AH] at hcc
                have hbw : Below w.heap.size w w' := (by repeat (first | (with_reducible exact Below.refl _ _) | (with_reducible assumption) | ((with_reducible refine Below.alloc ?_ ?_ _); rotate_left; (· first | (simp; done) | (simp; omega) | omega)) | ((with_reducible refine Below.setCell ?_ ?_ _); rotate_left; (· first | (simp; done) | (simp; omega) | omega)) | (with_reducible apply Below.drew) | ((with_reducible apply below_step); (· with_reducible assumption); rotate_left; (· first | (simp; done) | (simp; omega) | omega))))
                go_wp2
                go_roundw
                case rel => exact ⟨k + 1, by omega, by go_num, by rw [T1.out], by rw [T2.out], by rw [T3.out]; exact hown', HS2.out, HX2.out, by omega, (by repeat (first | (with_reducible exact Below.refl _ _) | (with_reducible assumption) | ((with_reducible refine Below.alloc ?_ ?_ _); rotate_left; (· first | (simp; done) | (simp; omega) | omega)) | ((with_reducible refine Below.setCell ?_ ?_ _); rotate_left; (· first | (simp; done) | (simp; omega) | omega)) | (with_reducible apply Below.drew) | ((with_reducible apply below_step); (· with_reducible assumption); rotate_left; (· first | (simp; done) | (simp; omega) | omega))))⟩
                case measure => simp [intOf]; omega
        · obtain rfl : k = 12 := by omega
          have e12 : ∀ j, j < 12 → abV p 12 j = q j := fun j hj => by rw [HQ.out]; exact if_pos hj
          have ht : ((qL q).map (Value.int .i64)).take 12 = (qL q).map (.int .i64) := rfl
          have HO2 : Hid (wr.ownsRow (w.heap.size + 2) 3 1 u7 12 ((qL q).map (.int .i64))) := by rw [← ht]; exact HO.out
          have B1 : Blk wr w.heap.size 48 #[.int .i64 (q 0), .int .i64 (q 1), .int .i64 (q 2), .int .i64 (q 3), .int .i64 (q 4), .int .i64 (q 5), .int .i64 (q 6), .int .i64 (q 7), .int .i64 (q 8), .int .i64 (q 9), .int .i64 (q 10), .int .i64 (q 11)] := by
            have := HB.out
            rw [e12 0 (by omega), e12 1 (by omega), e12 2 (by omega), e12 3 (by omega), e12 4 (by omega), e12 5 (by omega), e12 6 (by omega), e12 7 (by omega), e12 8 (by omega), e12 9 (by omega), e12 10 (by omega), e12 11 (by omega)] at this
            exact this
          clear ht e12 hX hB HO HB
          obtain ⟨A7, c7, rfl, -, -, hr7⟩ := own_form HO2.out
          obtain ⟨b7, o7, rfl, hb7, hc7⟩ := hr7.2 (by omega)
          have HC7 := Lib.hid hc7
          clear hc7 hr7
          have HB1 := Lib.hid B1
          have v1 := B1.cell
          have l1 := B1.lt
          clear B1
          have hqp : ∀ j, j < 12 → -100 ≤ q j ∧ q j ≤ 100 := fun j hj => by have := HQR.out j hj; omega
          have hsp := fun W (h : Powers W) => HSpectrum_any q W h hqp
          have hix2 : ∀ (k : Nat), k < 12 → ∀ w, (Instr.index 56 (.agg #[.int .i64 ((spcV q 12) 0).a, .int .i64 ((spcV q 12) 0).b, .int .i64 ((spcV q 12) 0).c, .int .i64 ((spcV q 12) 0).d, .int .i64 ((spcV q 12) 1).a, .int .i64 ((spcV q 12) 1).b, .int .i64 ((spcV q 12) 1).c, .int .i64 ((spcV q 12) 1).d, .int .i64 ((spcV q 12) 2).a, .int .i64 ((spcV q 12) 2).b, .int .i64 ((spcV q 12) 2).c, .int .i64 ((spcV q 12) 2).d, .int .i64 ((spcV q 12) 3).a, .int .i64 ((spcV q 12) 3).b, .int .i64 ((spcV q 12) 3).c, .int .i64 ((spcV q 12) 3).d, .int .i64 ((spcV q 12) 4).a, .int .i64 ((spcV q 12) 4).b, .int .i64 ((spcV q 12) 4).c, .int .i64 ((spcV q 12) 4).d, .int .i64 ((spcV q 12) 5).a, .int .i64 ((spcV q 12) 5).b, .int .i64 ((spcV q 12) 5).c, .int .i64 ((spcV q 12) 5).d, .int .i64 ((spcV q 12) 6).a, .int .i64 ((spcV q 12) 6).b, .int .i64 ((spcV q 12) 6).c, .int .i64 ((spcV q 12) 6).d, .int .i64 ((spcV q 12) 7).a, .int .i64 ((spcV q 12) 7).b, .int .i64 ((spcV q 12) 7).c, .int .i64 ((spcV q 12) 7).d, .int .i64 ((spcV q 12) 8).a, .int .i64 ((spcV q 12) 8).b, .int .i64 ((spcV q 12) 8).c, .int .i64 ((spcV q 12) 8).d, .int .i64 ((spcV q 12) 9).a, .int .i64 ((spcV q 12) 9).b, .int .i64 ((spcV q 12) 9).c, .int .i64 ((spcV q 12) 9).d, .int .i64 ((spcV q 12) 10).a, .int .i64 ((spcV q 12) 10).b, .int .i64 ((spcV q 12) 10).c, .int .i64 ((spcV q 12) 10).d, .int .i64 ((spcV q 12) 11).a, .int .i64 ((spcV q 12) 11).b, .int .i64 ((spcV q 12) 11).c, .int .i64 ((spcV q 12) 11).d]) (.int .i64 k)).run Tryd.prog w = .ok (.agg #[.int .i64 (spcV q 12 k).a, .int .i64 (spcV q 12 k).b, .int .i64 (spcV q 12 k).c, .int .i64 (spcV q 12 k).d]) w := fun k hk w => c48_index (spcV q 12) hk w
          have e1 := c48_size (spcV q 12)
          have e3 := c48_one (spcV q 12)
          have hdl : Hid (∀ W, Calls Tryd.prog 19 #[.agg #[.int .i64 (q 0), .int .i64 (q 1), .int .i64 (q 2), .int .i64 (q 3), .int .i64 (q 4), .int .i64 (q 5), .int .i64 (q 6), .int .i64 (q 7), .int .i64 (q 8), .int .i64 (q 9), .int .i64 (q 10), .int .i64 (q 11)], .int .i64 d] W fun e w' => e = .returned (.tuple #[.agg #[.int .i64 ((dlV q d 12) 0), .int .i64 ((dlV q d 12) 1), .int .i64 ((dlV q d 12) 2), .int .i64 ((dlV q d 12) 3), .int .i64 ((dlV q d 12) 4), .int .i64 ((dlV q d 12) 5), .int .i64 ((dlV q d 12) 6), .int .i64 ((dlV q d 12) 7), .int .i64 ((dlV q d 12) 8), .int .i64 ((dlV q d 12) 9), .int .i64 ((dlV q d 12) 10), .int .i64 ((dlV q d 12) 11)], .int .i64 0]) ∧ Below W.heap.size W w') := fun W => Delayed_any q d W hqp hd.1 hd.2
          generalize (#[.int .i64 ((spcV q 12) 0).a, .int .i64 ((spcV q 12) 0).b, .int .i64 ((spcV q 12) 0).c, .int .i64 ((spcV q 12) 0).d, .int .i64 ((spcV q 12) 1).a, .int .i64 ((spcV q 12) 1).b, .int .i64 ((spcV q 12) 1).c, .int .i64 ((spcV q 12) 1).d, .int .i64 ((spcV q 12) 2).a, .int .i64 ((spcV q 12) 2).b, .int .i64 ((spcV q 12) 2).c, .int .i64 ((spcV q 12) 2).d, .int .i64 ((spcV q 12) 3).a, .int .i64 ((spcV q 12) 3).b, .int .i64 ((spcV q 12) 3).c, .int .i64 ((spcV q 12) 3).d, .int .i64 ((spcV q 12) 4).a, .int .i64 ((spcV q 12) 4).b, .int .i64 ((spcV q 12) 4).c, .int .i64 ((spcV q 12) 4).d, .int .i64 ((spcV q 12) 5).a, .int .i64 ((spcV q 12) 5).b, .int .i64 ((spcV q 12) 5).c, .int .i64 ((spcV q 12) 5).d, .int .i64 ((spcV q 12) 6).a, .int .i64 ((spcV q 12) 6).b, .int .i64 ((spcV q 12) 6).c, .int .i64 ((spcV q 12) 6).d, .int .i64 ((spcV q 12) 7).a, .int .i64 ((spcV q 12) 7).b, .int .i64 ((spcV q 12) 7).c, .int .i64 ((spcV q 12) 7).d, .int .i64 ((spcV q 12) 8).a, .int .i64 ((spcV q 12) 8).b, .int .i64 ((spcV q 12) 8).c, .int .i64 ((spcV q 12) 8).d, .int .i64 ((spcV q 12) 9).a, .int .i64 ((spcV q 12) 9).b, .int .i64 ((spcV q 12) 9).c, .int .i64 ((spcV q 12) 9).d, .int .i64 ((spcV q 12) 10).a, .int .i64 ((spcV q 12) 10).b, .int .i64 ((spcV q 12) 10).c, .int .i64 ((spcV q 12) 10).d, .int .i64 ((spcV q 12) 11).a, .int .i64 ((spcV q 12) 11).b, .int .i64 ((spcV q 12) 11).c, .int .i64 ((spcV q 12) 11).d] : Array Value) = SP at *
          have E1 : Hid (SP.size = (#[.int .i64 0, .int .i64 0, .int .i64 0, .int .i64 0, .int .i64 0, .int .i64 0, .int .i64 0, .int .i64 0, .int .i64 0, .int .i64 0, .int .i64 0, .int .i64 0, .int .i64 0, .int .i64 0, .int .i64 0, .int .i64 0, .int .i64 0, .int .i64 0, .int .i64 0, .int .i64 0, .int .i64 0, .int .i64 0, .int .i64 0, .int .i64 0, .int .i64 0, .int .i64 0, .int .i64 0, .int .i64 0, .int .i64 0, .int .i64 0, .int .i64 0, .int .i64 0, .int .i64 0, .int .i64 0, .int .i64 0, .int .i64 0, .int .i64 0, .int .i64 0, .int .i64 0, .int .i64 0, .int .i64 0, .int .i64 0, .int .i64 0, .int .i64 0, .int .i64 0, .int .i64 0, .int .i64 0, .int .i64 0] : Array Value).size) := by show _ = _; rw [e1, z48_size]
          have E2 : Hid ((Tryd.prog.info? 56).map (·.size) = some SP.size) := by show _ = _; rw [e1]; exact (by kernel_rfl : (Tryd.prog.info? 56).map (·.size) = some 48)
          have E3 := Lib.hid e3
          have HIX2 := Lib.hid hix2
          have HSP := Lib.hid hsp
          have HQP := Lib.hid hqp
          clear hix2 hsp e1 e3 hqp HIX HPP
          go_wp2_with fail
          refine (HSP.out _ (hP.kept (by repeat (first | (with_reducible exact Below.refl _ _) | (with_reducible assumption) | ((with_reducible refine Below.alloc ?_ ?_ _); rotate_left; (· first | (simp; done) | (simp; omega) | omega)) | ((with_reducible refine Below.setCell ?_ ?_ _); rotate_left; (· first | (simp; done) | (simp; omega) | omega)) | (with_reducible apply Below.drew) | ((with_reducible apply below_step); (· with_reducible assumption); rotate_left; (· first | (simp; done) | (simp; omega) | omega)))))).mono ?_
          rintro e w3 ⟨rfl, hb3⟩
          obtain ⟨hc3, hf3⟩ := ifs_of hb3; have hs3 := hb3.size; (try simp at hs3)
          go_wp2_with (refine wpList_store_blk rfl 56 (.tmp 12) (.tmp 73) rfl w3.heap.size SP rfl rfl (Blk.new _ _ _) E1.out E2.out E3.out ?_; intro w4 hb4 hk4 hw4 hs4; have hw44 : Below wr.heap.size wr w4 := hw4 _ _ (by omega) (by repeat (first | (with_reducible exact Below.refl _ _) | (with_reducible assumption) | ((with_reducible refine Below.alloc ?_ ?_ _); rotate_left; (· first | (simp; done) | (simp; omega) | omega)) | ((with_reducible refine Below.setCell ?_ ?_ _); rotate_left; (· first | (simp; done) | (simp; omega) | omega)) | (with_reducible apply Below.drew) | ((with_reducible apply below_step); (· with_reducible assumption); rotate_left; (· first | (simp; done) | (simp; omega) | omega)))); have HB4 := Lib.hid hb4; have hs5 : w3.heap.size < w4.heap.size := (by simp at hs4; omega); have HB5 := Lib.hid (HB1.out.kept hw44); have v5 := HB5.out.cell; clear hk4 hw4 hs4 hb4 hc3 hf3 hb3 v1 HB1)
          refine (hdl.out _).mono ?_
          rintro e w5 ⟨rfl, hb5⟩
          obtain ⟨hc5, hf5⟩ := ifs_of hb5; have hs5 := hb5.size; (try simp at hs5)
          go_wp2_with fail
          refine wp_world ?_
          intro W hW
          have hWr : Below wr.heap.size wr W := by rw [hW]; exact (by repeat (first | (with_reducible exact Below.refl _ _) | (with_reducible assumption) | ((with_reducible refine Below.alloc ?_ ?_ _); rotate_left; (· first | (simp; done) | (simp; omega) | omega)) | ((with_reducible refine Below.setCell ?_ ?_ _); rotate_left; (· first | (simp; done) | (simp; omega) | omega)) | (with_reducible apply Below.drew) | ((with_reducible apply below_step); (· with_reducible assumption); rotate_left; (· first | (simp; done) | (simp; omega) | omega))))
          have hWw : Below w.heap.size w W := by rw [hW]; exact (by repeat (first | (with_reducible exact Below.refl _ _) | (with_reducible assumption) | ((with_reducible refine Below.alloc ?_ ?_ _); rotate_left; (· first | (simp; done) | (simp; omega) | omega)) | ((with_reducible refine Below.setCell ?_ ?_ _); rotate_left; (· first | (simp; done) | (simp; omega) | omega)) | (with_reducible apply Below.drew) | ((with_reducible apply below_step); (· with_reducible assumption); rotate_left; (· first | (simp; done) | (simp; omega) | omega))))
          have BX : Blk W (w.heap.size + 1) 50 #[.int .i64 F, .int .i64 L, .int .i64 S] := HX.out.kept hWr
          have BS : Blk W w3.heap.size 56 SP := by rw [hW]; have := HB4.out; exact (by repeat (first | (with_reducible assumption) | ((with_reducible apply Blk.new_at); (first | (simp; done) | (simp; omega))) | (with_reducible apply Blk.drew) | (with_reducible refine Blk.alloc ?_ _) | (with_reducible apply blk_two) | ((with_reducible refine blk_far ?_ ?_ _); (· first | (simp; done) | (simp; omega) | omega)) | ((with_reducible apply blk_kept); (· with_reducible assumption))))
          have BD : Blk W w5.heap.size 48 #[.int .i64 ((dlV q d 12) 0), .int .i64 ((dlV q d 12) 1), .int .i64 ((dlV q d 12) 2), .int .i64 ((dlV q d 12) 3), .int .i64 ((dlV q d 12) 4), .int .i64 ((dlV q d 12) 5), .int .i64 ((dlV q d 12) 6), .int .i64 ((dlV q d 12) 7), .int .i64 ((dlV q d 12) 8), .int .i64 ((dlV q d 12) 9), .int .i64 ((dlV q d 12) 10), .int .i64 ((dlV q d 12) 11)] := by rw [hW]; exact (by repeat (first | (with_reducible assumption) | ((with_reducible apply Blk.new_at); (first | (simp; done) | (simp; omega))) | (with_reducible apply Blk.drew) | (with_reducible refine Blk.alloc ?_ _) | (with_reducible apply blk_two) | ((with_reducible refine blk_far ?_ ?_ _); (· first | (simp; done) | (simp; omega) | omega)) | ((with_reducible apply blk_kept); (· with_reducible assumption))))
          have hc7 : ∀ j u, ((qL q).map (Value.int .i64))[j]? = some u → W.cell? ((⟨b7, o7, none⟩ : Addr).add j) = some u := fun j u hu => by
            rw [Addr.add_lit]
            exact (hWr.cell hb7).trans (HC7.out j u hu)
          have g7 : b7 < W.heap.size := by have := hWr.size; omega
          clear hW
          have HW7 := Lib.hid hc7
          have HZL := Lib.hid (qL_range HQR.out)
          have vX := BX.cell
          have lX := BX.lt
          have HBX := Lib.hid BX
          have HBS := Lib.hid BS
          have HBD := Lib.hid BD
          have lD := BD.lt
          have lS := BS.lt
          clear BX BS BD hc7 HX HO2 HB4 HB5 HC7 v5
          go_cut [16, 17] (fun s16 s17 wx => ∃ g : Nat, s16 = .pointer (some ⟨g, 0, none⟩) ∧ s17 = .int .i64 0 ∧ Blk wx g 62 #[.int .i64 (balLo F L S (qL q)), .int .i64 (balHi F L S (qL q))] ∧ Below W.heap.size W wx)
          case first =>
            as_aux_lemma =>
              (refine wp_region_calm [] [0, 2] 9 (by kernel_rfl) rfl (by kernel_rfl) (by kernel_rfl) (by kernel_rfl) ?_; simp only [pickB, List.filterMap_cons, List.filterMap_nil, List.getElem?_toArray, List.getElem?_cons_zero, List.getElem?_cons_succ]; (repeat (refine quietL_plain rfl (fun K hK => ?_); (apply Exists.intro; refine ⟨fun wx hx => ?_, ?_⟩; (· (have hcx := ifs_ex hx); simp [go_sem, *, ↓IntWalk.iteOmega] <;> (first | rfl | exact ⟨rfl, rfl⟩ | fail)); (simp only [Act.put, List.setIfInBounds_toArray, List.set_cons_zero, List.set_cons_succ]; refine hK _ ?_; clear hK K)))); refine quietL_nil ?_)
              refine anyB_two (i := 1) (j := 8) (by kernel_rfl) rfl rfl rfl rfl ?_ ?_
              · intro wa hba K hK
                obtain ⟨hca, hfa⟩ := ifs_of hba; have hsa := hba.size; (try simp at hsa)
                go_wp2
                refine ⟨(by repeat (first | (with_reducible exact Ex.refl _ _) | (with_reducible assumption) | (with_reducible refine Ex.alloc ?_ _) | ((with_reducible refine Ex.set_in ?_ ?_ _); (· first | (left; simp; done) | (right; simp; done) | (right; simp; omega) | (right; omega))) | ((with_reducible apply Ex.step); (· with_reducible assumption)))), ?_⟩
                have OA := Lib.hid (Own.new wa W.heap.size 3 1 0 #[] (by omega) rfl (by decide))
                refine anyB_two (i := 3) (j := 8) (by kernel_rfl) rfl rfl rfl rfl ?_ ?_
                · intro wb hbb K hK
                  obtain ⟨hcb, hfb⟩ := ifs_of hbb; have hsb := hbb.size; (try simp at hsb)
                  refine wp_fresh 53 3 1 8 elemInt (.tmp 84) (.tmp 85) rfl W.heap.size wa.heap.size rfl (by first | exact OA.out.kept hbb | exact ((OA.out.kept hbf).alloc _).kept hbb) ⟨b7, o7, none⟩ 12 c7 ((qL q).map (.int .i64)) rfl (fun j u hu => (Below.cell ((by repeat (first | (with_reducible exact Below.refl _ _) | (with_reducible assumption) | ((with_reducible refine Below.alloc ?_ ?_ _); rotate_left; (· first | (simp; done) | (simp; omega) | omega)) | ((with_reducible refine Below.setCell ?_ ?_ _); rotate_left; (· first | (simp; done) | (simp; omega) | omega)) | (with_reducible apply Below.drew) | ((with_reducible apply below_step); (· with_reducible assumption); rotate_left; (· first | (simp; done) | (simp; omega) | omega)))) : Below W.heap.size W wb) (by rw [Addr.add_lit]; exact g7)).trans (HW7.out j u hu)) rfl (row_one _) (by decide) (by unfold maxLen; decide) (by decide) (by omega) ?_
                  intro g cap wq hown hbc hkc
                  have hWc : Below W.heap.size W wq := ((by repeat (first | (with_reducible exact Below.refl _ _) | (with_reducible assumption) | ((with_reducible refine Below.alloc ?_ ?_ _); rotate_left; (· first | (simp; done) | (simp; omega) | omega)) | ((with_reducible refine Below.setCell ?_ ?_ _); rotate_left; (· first | (simp; done) | (simp; omega) | omega)) | (with_reducible apply Below.drew) | ((with_reducible apply below_step); (· with_reducible assumption); rotate_left; (· first | (simp; done) | (simp; omega) | omega)))) : Below W.heap.size W wb).trans hbc
                  have hXc : Ex [] W wq := Ex.under (by repeat (first | (with_reducible exact Ex.refl _ _) | (with_reducible assumption) | (with_reducible refine Ex.alloc ?_ _) | ((with_reducible refine Ex.set_in ?_ ?_ _); (· first | (left; simp; done) | (right; simp; done) | (right; simp; omega) | (right; omega))) | ((with_reducible apply Ex.step); (· with_reducible assumption)))) hbc
                  have hgl := hown.lt
                  have hsc := hbc.size
                  refine hK _ _ ⟨hXc, ?_⟩
                  clear hK K
                  refine anyB_two (i := 4) (j := 8) (by kernel_rfl) rfl rfl rfl rfl ?_ ?_
                  · intro wd hbd K hK
                    obtain ⟨hcd, hfd⟩ := ifs_of hbd; have hsd := hbd.size; (try simp at hsd)
                    go_wp2_with fail
                    refine (Balance_any F L S (g + 1) _ 12 cap (qL q) _ hls (Own.reads (by first | exact hown.kept hbd | exact ((hown.kept hbf).alloc _).kept hbd)) (by omega) (by omega) HZL.out).mono ?_
                    rintro e we ⟨rfl, hbe⟩
                    obtain ⟨hce, hfe⟩ := ifs_of hbe; have hse := hbe.size; (try simp at hse)
                    go_wp2
                    refine ⟨(by repeat (first | (with_reducible exact Ex.refl _ _) | (with_reducible assumption) | (with_reducible refine Ex.alloc ?_ _) | ((with_reducible refine Ex.set_in ?_ ?_ _); (· first | (left; simp; done) | (right; simp; done) | (right; simp; omega) | (right; omega))) | ((with_reducible apply Ex.step); (· with_reducible assumption)))), ?_⟩
                    (refine anyB_quiet_at (by kernel_rfl) calm_panic (by repeat (first | (with_reducible exact Ex.refl _ _) | (with_reducible assumption) | (with_reducible refine Ex.alloc ?_ _) | ((with_reducible refine Ex.set_in ?_ ?_ _); (· first | (left; simp; done) | (right; simp; done) | (right; simp; omega) | (right; omega))) | ((with_reducible apply Ex.step); (· with_reducible assumption)))) 3 [5, 6, 7] _ _ (by kernel_rfl) (fun i hi => by simp only [List.mem_cons, List.not_mem_nil, or_false] at hi; rcases hi with rfl | rfl | rfl <;> (show _ < 11; decide)) ?_; simp only [pickB, List.filterMap_cons, List.filterMap_nil, List.getElem?_toArray, List.getElem?_cons_zero, List.getElem?_cons_succ]; (repeat (refine quietL_plain rfl (fun K hK => ?_); (apply Exists.intro; refine ⟨fun wx hx => ?_, ?_⟩; (· (have hcx := ifs_ex hx); simp [go_sem, *, ↓IntWalk.iteOmega] <;> (first | rfl | exact ⟨rfl, rfl⟩ | fail)); (simp only [Act.put, List.setIfInBounds_toArray, List.set_cons_zero, List.set_cons_succ]; refine hK _ ?_; clear hK K)))); refine quietL_nil ?_)
                    (refine anyB_one (i := 8) (by kernel_rfl) rfl rfl ?_; intro wf hbf K hK; obtain ⟨hcf, hff⟩ := ifs_of hbf; have hsf := hbf.size; (try simp at hsf); go_wp2; refine ⟨(by repeat (first | (with_reducible exact Ex.refl _ _) | (with_reducible assumption) | (with_reducible refine Ex.alloc ?_ _) | ((with_reducible refine Ex.set_in ?_ ?_ _); (· first | (left; simp; done) | (right; simp; done) | (right; simp; omega) | (right; omega))) | ((with_reducible apply Ex.step); (· with_reducible assumption)))), ?_⟩)
                    (refine anyB_one (i := 9) (by kernel_rfl) rfl rfl ?_; intro wh hbh K hK; obtain ⟨hch, hfh⟩ := ifs_of hbh; have hsh := hbh.size; (try simp at hsh); go_wp2; refine ⟨(by repeat (first | (with_reducible exact Ex.refl _ _) | (with_reducible assumption) | (with_reducible refine Ex.alloc ?_ _) | ((with_reducible refine Ex.set_in ?_ ?_ _); (· first | (left; simp; done) | (right; simp; done) | (right; simp; omega) | (right; omega))) | ((with_reducible apply Ex.step); (· with_reducible assumption)))), ?_⟩)
                    (refine anyB_one (i := 10) (by kernel_rfl) rfl rfl ?_; intro wi hbi K hK; obtain ⟨hci, hfi⟩ := ifs_of hbi; have hsi := hbi.size; (try simp at hsi); go_wp2; refine ⟨(by repeat (first | (with_reducible exact Ex.refl _ _) | (with_reducible assumption) | (with_reducible refine Ex.alloc ?_ _) | ((with_reducible refine Ex.set_in ?_ ?_ _); (· first | (left; simp; done) | (right; simp; done) | (right; simp; omega) | (right; omega))) | ((with_reducible apply Ex.step); (· with_reducible assumption)))), ?_⟩)
                    (refine anyB_end (by kernel_rfl) ?_; intro wj hbj; obtain ⟨hcj, hfj⟩ := ifs_of hbj; have hsj := hbj.size; (try simp at hsj); simp only [Calm])
                    go_wp2_with fail
                    go_meet
                    exact ⟨_, rfl, rfl, (by repeat (first | (with_reducible assumption) | ((with_reducible apply Blk.new_at); (first | (simp; done) | (simp; omega))) | (with_reducible apply Blk.drew) | (with_reducible refine Blk.alloc ?_ _) | (with_reducible apply blk_two) | ((with_reducible refine blk_far ?_ ?_ _); (· first | (simp; done) | (simp; omega) | omega)) | ((with_reducible apply blk_kept); (· with_reducible assumption)))), (by repeat (first | (with_reducible exact Below.refl _ _) | (with_reducible assumption) | ((with_reducible refine Below.alloc ?_ ?_ _); rotate_left; (· first | (simp; done) | (simp; omega) | omega)) | ((with_reducible refine Below.setCell ?_ ?_ _); rotate_left; (· first | (simp; done) | (simp; omega) | omega)) | (with_reducible apply Below.drew) | ((with_reducible apply below_step); (· with_reducible assumption); rotate_left; (· first | (simp; done) | (simp; omega) | omega))))⟩
                  · intro wf hbf K hK
                    obtain ⟨hcf, hff⟩ := ifs_of hbf; have hsf := hbf.size; (try simp at hsf)
                    go_wp2
                    refine ⟨(by repeat (first | (with_reducible exact Ex.refl _ _) | (with_reducible assumption) | (with_reducible refine Ex.alloc ?_ _) | ((with_reducible refine Ex.set_in ?_ ?_ _); (· first | (left; simp; done) | (right; simp; done) | (right; simp; omega) | (right; omega))) | ((with_reducible apply Ex.step); (· with_reducible assumption)))), ?_⟩
                    refine anyB_one (i := 4) (by kernel_rfl) rfl rfl ?_
                    intro wd hbd K hK
                    obtain ⟨hcd, hfd⟩ := ifs_of hbd; have hsd := hbd.size; (try simp at hsd)
                    go_wp2_with fail
                    refine (Balance_any F L S (g + 1) _ 12 cap (qL q) _ hls (Own.reads (by first | exact hown.kept hbd | exact ((hown.kept hbf).alloc _).kept hbd)) (by omega) (by omega) HZL.out).mono ?_
                    rintro e we ⟨rfl, hbe⟩
                    obtain ⟨hce, hfe⟩ := ifs_of hbe; have hse := hbe.size; (try simp at hse)
                    go_wp2
                    refine ⟨(by repeat (first | (with_reducible exact Ex.refl _ _) | (with_reducible assumption) | (with_reducible refine Ex.alloc ?_ _) | ((with_reducible refine Ex.set_in ?_ ?_ _); (· first | (left; simp; done) | (right; simp; done) | (right; simp; omega) | (right; omega))) | ((with_reducible apply Ex.step); (· with_reducible assumption)))), ?_⟩
                    (refine anyB_quiet_at (by kernel_rfl) calm_panic (by repeat (first | (with_reducible exact Ex.refl _ _) | (with_reducible assumption) | (with_reducible refine Ex.alloc ?_ _) | ((with_reducible refine Ex.set_in ?_ ?_ _); (· first | (left; simp; done) | (right; simp; done) | (right; simp; omega) | (right; omega))) | ((with_reducible apply Ex.step); (· with_reducible assumption)))) 2 [5, 6, 7] _ _ (by kernel_rfl) (fun i hi => by simp only [List.mem_cons, List.not_mem_nil, or_false] at hi; rcases hi with rfl | rfl | rfl <;> (show _ < 11; decide)) ?_; simp only [pickB, List.filterMap_cons, List.filterMap_nil, List.getElem?_toArray, List.getElem?_cons_zero, List.getElem?_cons_succ]; (repeat (refine quietL_plain rfl (fun K hK => ?_); (apply Exists.intro; refine ⟨fun wx hx => ?_, ?_⟩; (· (have hcx := ifs_ex hx); simp [go_sem, *, ↓IntWalk.iteOmega] <;> (first | rfl | exact ⟨rfl, rfl⟩ | fail)); (simp only [Act.put, List.setIfInBounds_toArray, List.set_cons_zero, List.set_cons_succ]; refine hK _ ?_; clear hK K)))); refine quietL_nil ?_)
                    (refine anyB_one (i := 9) (by kernel_rfl) rfl rfl ?_; intro wh hbh K hK; obtain ⟨hch, hfh⟩ := ifs_of hbh; have hsh := hbh.size; (try simp at hsh); go_wp2; refine ⟨(by repeat (first | (with_reducible exact Ex.refl _ _) | (with_reducible assumption) | (with_reducible refine Ex.alloc ?_ _) | ((with_reducible refine Ex.set_in ?_ ?_ _); (· first | (left; simp; done) | (right; simp; done) | (right; simp; omega) | (right; omega))) | ((with_reducible apply Ex.step); (· with_reducible assumption)))), ?_⟩)
                    (refine anyB_one (i := 10) (by kernel_rfl) rfl rfl ?_; intro wi hbi K hK; obtain ⟨hci, hfi⟩ := ifs_of hbi; have hsi := hbi.size; (try simp at hsi); go_wp2; refine ⟨(by repeat (first | (with_reducible exact Ex.refl _ _) | (with_reducible assumption) | (with_reducible refine Ex.alloc ?_ _) | ((with_reducible refine Ex.set_in ?_ ?_ _); (· first | (left; simp; done) | (right; simp; done) | (right; simp; omega) | (right; omega))) | ((with_reducible apply Ex.step); (· with_reducible assumption)))), ?_⟩)
                    (refine anyB_end (by kernel_rfl) ?_; intro wj hbj; obtain ⟨hcj, hfj⟩ := ifs_of hbj; have hsj := hbj.size; (try simp at hsj); simp only [Calm])
                    go_wp2_with fail
                    go_meet
                    exact ⟨_, rfl, rfl, (by repeat (first | (with_reducible assumption) | ((with_reducible apply Blk.new_at); (first | (simp; done) | (simp; omega))) | (with_reducible apply Blk.drew) | (with_reducible refine Blk.alloc ?_ _) | (with_reducible apply blk_two) | ((with_reducible refine blk_far ?_ ?_ _); (· first | (simp; done) | (simp; omega) | omega)) | ((with_reducible apply blk_kept); (· with_reducible assumption)))), (by repeat (first | (with_reducible exact Below.refl _ _) | (with_reducible assumption) | ((with_reducible refine Below.alloc ?_ ?_ _); rotate_left; (· first | (simp; done) | (simp; omega) | omega)) | ((with_reducible refine Below.setCell ?_ ?_ _); rotate_left; (· first | (simp; done) | (simp; omega) | omega)) | (with_reducible apply Below.drew) | ((with_reducible apply below_step); (· with_reducible assumption); rotate_left; (· first | (simp; done) | (simp; omega) | omega))))⟩
                · intro wf hbf K hK
                  obtain ⟨hcf, hff⟩ := ifs_of hbf; have hsf := hbf.size; (try simp at hsf)
                  go_wp2
                  refine ⟨(by repeat (first | (with_reducible exact Ex.refl _ _) | (with_reducible assumption) | (with_reducible refine Ex.alloc ?_ _) | ((with_reducible refine Ex.set_in ?_ ?_ _); (· first | (left; simp; done) | (right; simp; done) | (right; simp; omega) | (right; omega))) | ((with_reducible apply Ex.step); (· with_reducible assumption)))), ?_⟩
                  refine anyB_one (i := 3) (by kernel_rfl) rfl rfl ?_
                  intro wb hbb K hK
                  obtain ⟨hcb, hfb⟩ := ifs_of hbb; have hsb := hbb.size; (try simp at hsb)
                  refine wp_fresh 53 3 1 8 elemInt (.tmp 84) (.tmp 85) rfl W.heap.size wa.heap.size rfl (by first | exact OA.out.kept hbb | exact ((OA.out.kept hbf).alloc _).kept hbb) ⟨b7, o7, none⟩ 12 c7 ((qL q).map (.int .i64)) rfl (fun j u hu => (Below.cell ((by repeat (first | (with_reducible exact Below.refl _ _) | (with_reducible assumption) | ((with_reducible refine Below.alloc ?_ ?_ _); rotate_left; (· first | (simp; done) | (simp; omega) | omega)) | ((with_reducible refine Below.setCell ?_ ?_ _); rotate_left; (· first | (simp; done) | (simp; omega) | omega)) | (with_reducible apply Below.drew) | ((with_reducible apply below_step); (· with_reducible assumption); rotate_left; (· first | (simp; done) | (simp; omega) | omega)))) : Below W.heap.size W wb) (by rw [Addr.add_lit]; exact g7)).trans (HW7.out j u hu)) rfl (row_one _) (by decide) (by unfold maxLen; decide) (by decide) (by omega) ?_
                  intro g cap wq hown hbc hkc
                  have hWc : Below W.heap.size W wq := ((by repeat (first | (with_reducible exact Below.refl _ _) | (with_reducible assumption) | ((with_reducible refine Below.alloc ?_ ?_ _); rotate_left; (· first | (simp; done) | (simp; omega) | omega)) | ((with_reducible refine Below.setCell ?_ ?_ _); rotate_left; (· first | (simp; done) | (simp; omega) | omega)) | (with_reducible apply Below.drew) | ((with_reducible apply below_step); (· with_reducible assumption); rotate_left; (· first | (simp; done) | (simp; omega) | omega)))) : Below W.heap.size W wb).trans hbc
                  have hXc : Ex [] W wq := Ex.under (by repeat (first | (with_reducible exact Ex.refl _ _) | (with_reducible assumption) | (with_reducible refine Ex.alloc ?_ _) | ((with_reducible refine Ex.set_in ?_ ?_ _); (· first | (left; simp; done) | (right; simp; done) | (right; simp; omega) | (right; omega))) | ((with_reducible apply Ex.step); (· with_reducible assumption)))) hbc
                  have hBf : Blk wq wf.heap.size 62 #[.int .i64 0, .int .i64 0] := hkc _ _ _ (by omega) ((by repeat (first | (with_reducible assumption) | ((with_reducible apply Blk.new_at); (first | (simp; done) | (simp; omega))) | (with_reducible apply Blk.drew) | (with_reducible refine Blk.alloc ?_ _) | (with_reducible apply blk_two) | ((with_reducible refine blk_far ?_ ?_ _); (· first | (simp; done) | (simp; omega) | omega)) | ((with_reducible apply blk_kept); (· with_reducible assumption)))) : Blk wb wf.heap.size _ _)
                  have hcf := hBf.cell
                  have hff := hBf.frozen
                  have hgl := hown.lt
                  have hsc := hbc.size
                  refine hK _ _ ⟨hXc, ?_⟩
                  clear hK K
                  refine anyB_one (i := 4) (by kernel_rfl) rfl rfl ?_
                  intro wd hbd K hK
                  obtain ⟨hcd, hfd⟩ := ifs_of hbd; have hsd := hbd.size; (try simp at hsd)
                  go_wp2_with fail
                  refine (Balance_any F L S (g + 1) _ 12 cap (qL q) _ hls (Own.reads (by first | exact hown.kept hbd | exact ((hown.kept hbf).alloc _).kept hbd)) (by omega) (by omega) HZL.out).mono ?_
                  rintro e we ⟨rfl, hbe⟩
                  obtain ⟨hce, hfe⟩ := ifs_of hbe; have hse := hbe.size; (try simp at hse)
                  go_wp2
                  refine ⟨(by repeat (first | (with_reducible exact Ex.refl _ _) | (with_reducible assumption) | (with_reducible refine Ex.alloc ?_ _) | ((with_reducible refine Ex.set_in ?_ ?_ _); (· first | (left; simp; done) | (right; simp; done) | (right; simp; omega) | (right; omega))) | ((with_reducible apply Ex.step); (· with_reducible assumption)))), ?_⟩
                  (refine anyB_quiet_at (by kernel_rfl) calm_panic (by repeat (first | (with_reducible exact Ex.refl _ _) | (with_reducible assumption) | (with_reducible refine Ex.alloc ?_ _) | ((with_reducible refine Ex.set_in ?_ ?_ _); (· first | (left; simp; done) | (right; simp; done) | (right; simp; omega) | (right; omega))) | ((with_reducible apply Ex.step); (· with_reducible assumption)))) 2 [5, 6, 7] _ _ (by kernel_rfl) (fun i hi => by simp only [List.mem_cons, List.not_mem_nil, or_false] at hi; rcases hi with rfl | rfl | rfl <;> (show _ < 11; decide)) ?_; simp only [pickB, List.filterMap_cons, List.filterMap_nil, List.getElem?_toArray, List.getElem?_cons_zero, List.getElem?_cons_succ]; (repeat (refine quietL_plain rfl (fun K hK => ?_); (apply Exists.intro; refine ⟨fun wx hx => ?_, ?_⟩; (· (have hcx := ifs_ex hx); simp [go_sem, *, ↓IntWalk.iteOmega] <;> (first | rfl | exact ⟨rfl, rfl⟩ | fail)); (simp only [Act.put, List.setIfInBounds_toArray, List.set_cons_zero, List.set_cons_succ]; refine hK _ ?_; clear hK K)))); refine quietL_nil ?_)
                  (refine anyB_one (i := 9) (by kernel_rfl) rfl rfl ?_; intro wh hbh K hK; obtain ⟨hch, hfh⟩ := ifs_of hbh; have hsh := hbh.size; (try simp at hsh); go_wp2; refine ⟨(by repeat (first | (with_reducible exact Ex.refl _ _) | (with_reducible assumption) | (with_reducible refine Ex.alloc ?_ _) | ((with_reducible refine Ex.set_in ?_ ?_ _); (· first | (left; simp; done) | (right; simp; done) | (right; simp; omega) | (right; omega))) | ((with_reducible apply Ex.step); (· with_reducible assumption)))), ?_⟩)
                  (refine anyB_one (i := 10) (by kernel_rfl) rfl rfl ?_; intro wi hbi K hK; obtain ⟨hci, hfi⟩ := ifs_of hbi; have hsi := hbi.size; (try simp at hsi); go_wp2; refine ⟨(by repeat (first | (with_reducible exact Ex.refl _ _) | (with_reducible assumption) | (with_reducible refine Ex.alloc ?_ _) | ((with_reducible refine Ex.set_in ?_ ?_ _); (· first | (left; simp; done) | (right; simp; done) | (right; simp; omega) | (right; omega))) | ((with_reducible apply Ex.step); (· with_reducible assumption)))), ?_⟩)
                  (refine anyB_end (by kernel_rfl) ?_; intro wj hbj; obtain ⟨hcj, hfj⟩ := ifs_of hbj; have hsj := hbj.size; (try simp at hsj); simp only [Calm])
                  go_wp2_with fail
                  go_meet
                  exact ⟨_, rfl, rfl, (by repeat (first | (with_reducible assumption) | ((with_reducible apply Blk.new_at); (first | (simp; done) | (simp; omega))) | (with_reducible apply Blk.drew) | (with_reducible refine Blk.alloc ?_ _) | (with_reducible apply blk_two) | ((with_reducible refine blk_far ?_ ?_ _); (· first | (simp; done) | (simp; omega) | omega)) | ((with_reducible apply blk_kept); (· with_reducible assumption)))), (by repeat (first | (with_reducible exact Below.refl _ _) | (with_reducible assumption) | ((with_reducible refine Below.alloc ?_ ?_ _); rotate_left; (· first | (simp; done) | (simp; omega) | omega)) | ((with_reducible refine Below.setCell ?_ ?_ _); rotate_left; (· first | (simp; done) | (simp; omega) | omega)) | (with_reducible apply Below.drew) | ((with_reducible apply below_step); (· with_reducible assumption); rotate_left; (· first | (simp; done) | (simp; omega) | omega))))⟩
              · intro wf hbf K hK
                obtain ⟨hcf, hff⟩ := ifs_of hbf; have hsf := hbf.size; (try simp at hsf)
                go_wp2
                refine ⟨(by repeat (first | (with_reducible exact Ex.refl _ _) | (with_reducible assumption) | (with_reducible refine Ex.alloc ?_ _) | ((with_reducible refine Ex.set_in ?_ ?_ _); (· first | (left; simp; done) | (right; simp; done) | (right; simp; omega) | (right; omega))) | ((with_reducible apply Ex.step); (· with_reducible assumption)))), ?_⟩
                refine anyB_one (i := 1) (by kernel_rfl) rfl rfl ?_
                intro wa hba K hK
                obtain ⟨hca, hfa⟩ := ifs_of hba; have hsa := hba.size; (try simp at hsa)
                go_wp2
                refine ⟨(by repeat (first | (with_reducible exact Ex.refl _ _) | (with_reducible assumption) | (with_reducible refine Ex.alloc ?_ _) | ((with_reducible refine Ex.set_in ?_ ?_ _); (· first | (left; simp; done) | (right; simp; done) | (right; simp; omega) | (right; omega))) | ((with_reducible apply Ex.step); (· with_reducible assumption)))), ?_⟩
                have OA := Lib.hid (Own.new wa W.heap.size 3 1 0 #[] (by omega) rfl (by decide))
                refine anyB_one (i := 3) (by kernel_rfl) rfl rfl ?_
                intro wb hbb K hK
                obtain ⟨hcb, hfb⟩ := ifs_of hbb; have hsb := hbb.size; (try simp at hsb)
                refine wp_fresh 53 3 1 8 elemInt (.tmp 84) (.tmp 85) rfl W.heap.size wa.heap.size rfl (by first | exact OA.out.kept hbb | exact ((OA.out.kept hbf).alloc _).kept hbb) ⟨b7, o7, none⟩ 12 c7 ((qL q).map (.int .i64)) rfl (fun j u hu => (Below.cell ((by repeat (first | (with_reducible exact Below.refl _ _) | (with_reducible assumption) | ((with_reducible refine Below.alloc ?_ ?_ _); rotate_left; (· first | (simp; done) | (simp; omega) | omega)) | ((with_reducible refine Below.setCell ?_ ?_ _); rotate_left; (· first | (simp; done) | (simp; omega) | omega)) | (with_reducible apply Below.drew) | ((with_reducible apply below_step); (· with_reducible assumption); rotate_left; (· first | (simp; done) | (simp; omega) | omega)))) : Below W.heap.size W wb) (by rw [Addr.add_lit]; exact g7)).trans (HW7.out j u hu)) rfl (row_one _) (by decide) (by unfold maxLen; decide) (by decide) (by omega) ?_
                intro g cap wq hown hbc hkc
                have hWc : Below W.heap.size W wq := ((by repeat (first | (with_reducible exact Below.refl _ _) | (with_reducible assumption) | ((with_reducible refine Below.alloc ?_ ?_ _); rotate_left; (· first | (simp; done) | (simp; omega) | omega)) | ((with_reducible refine Below.setCell ?_ ?_ _); rotate_left; (· first | (simp; done) | (simp; omega) | omega)) | (with_reducible apply Below.drew) | ((with_reducible apply below_step); (· with_reducible assumption); rotate_left; (· first | (simp; done) | (simp; omega) | omega)))) : Below W.heap.size W wb).trans hbc
                have hXc : Ex [] W wq := Ex.under (by repeat (first | (with_reducible exact Ex.refl _ _) | (with_reducible assumption) | (with_reducible refine Ex.alloc ?_ _) | ((with_reducible refine Ex.set_in ?_ ?_ _); (· first | (left; simp; done) | (right; simp; done) | (right; simp; omega) | (right; omega))) | ((with_reducible apply Ex.step); (· with_reducible assumption)))) hbc
                have hBf : Blk wq wf.heap.size 62 #[.int .i64 0, .int .i64 0] := hkc _ _ _ (by omega) ((by repeat (first | (with_reducible assumption) | ((with_reducible apply Blk.new_at); (first | (simp; done) | (simp; omega))) | (with_reducible apply Blk.drew) | (with_reducible refine Blk.alloc ?_ _) | (with_reducible apply blk_two) | ((with_reducible refine blk_far ?_ ?_ _); (· first | (simp; done) | (simp; omega) | omega)) | ((with_reducible apply blk_kept); (· with_reducible assumption)))) : Blk wb wf.heap.size _ _)
                have hcf := hBf.cell
                have hff := hBf.frozen
                have hgl := hown.lt
                have hsc := hbc.size
                refine hK _ _ ⟨hXc, ?_⟩
                clear hK K
                refine anyB_one (i := 4) (by kernel_rfl) rfl rfl ?_
                intro wd hbd K hK
                obtain ⟨hcd, hfd⟩ := ifs_of hbd; have hsd := hbd.size; (try simp at hsd)
                go_wp2_with fail
                refine (Balance_any F L S (g + 1) _ 12 cap (qL q) _ hls (Own.reads (by first | exact hown.kept hbd | exact ((hown.kept hbf).alloc _).kept hbd)) (by omega) (by omega) HZL.out).mono ?_
                rintro e we ⟨rfl, hbe⟩
                obtain ⟨hce, hfe⟩ := ifs_of hbe; have hse := hbe.size; (try simp at hse)
                go_wp2
                refine ⟨(by repeat (first | (with_reducible exact Ex.refl _ _) | (with_reducible assumption) | (with_reducible refine Ex.alloc ?_ _) | ((with_reducible refine Ex.set_in ?_ ?_ _); (· first | (left; simp; done) | (right; simp; done) | (right; simp; omega) | (right; omega))) | ((with_reducible apply Ex.step); (· with_reducible assumption)))), ?_⟩
                (refine anyB_quiet_at (by kernel_rfl) calm_panic (by repeat (first | (with_reducible exact Ex.refl _ _) | (with_reducible assumption) | (with_reducible refine Ex.alloc ?_ _) | ((with_reducible refine Ex.set_in ?_ ?_ _); (· first | (left; simp; done) | (right; simp; done) | (right; simp; omega) | (right; omega))) | ((with_reducible apply Ex.step); (· with_reducible assumption)))) 2 [5, 6, 7] _ _ (by kernel_rfl) (fun i hi => by simp only [List.mem_cons, List.not_mem_nil, or_false] at hi; rcases hi with rfl | rfl | rfl <;> (show _ < 11; decide)) ?_; simp only [pickB, List.filterMap_cons, List.filterMap_nil, List.getElem?_toArray, List.getElem?_cons_zero, List.getElem?_cons_succ]; (repeat (refine quietL_plain rfl (fun K hK => ?_); (apply Exists.intro; refine ⟨fun wx hx => ?_, ?_⟩; (· (have hcx := ifs_ex hx); simp [go_sem, *, ↓IntWalk.iteOmega] <;> (first | rfl | exact ⟨rfl, rfl⟩ | fail)); (simp only [Act.put, List.setIfInBounds_toArray, List.set_cons_zero, List.set_cons_succ]; refine hK _ ?_; clear hK K)))); refine quietL_nil ?_)
                (refine anyB_one (i := 9) (by kernel_rfl) rfl rfl ?_; intro wh hbh K hK; obtain ⟨hch, hfh⟩ := ifs_of hbh; have hsh := hbh.size; (try simp at hsh); go_wp2; refine ⟨(by repeat (first | (with_reducible exact Ex.refl _ _) | (with_reducible assumption) | (with_reducible refine Ex.alloc ?_ _) | ((with_reducible refine Ex.set_in ?_ ?_ _); (· first | (left; simp; done) | (right; simp; done) | (right; simp; omega) | (right; omega))) | ((with_reducible apply Ex.step); (· with_reducible assumption)))), ?_⟩)
                (refine anyB_one (i := 10) (by kernel_rfl) rfl rfl ?_; intro wi hbi K hK; obtain ⟨hci, hfi⟩ := ifs_of hbi; have hsi := hbi.size; (try simp at hsi); go_wp2; refine ⟨(by repeat (first | (with_reducible exact Ex.refl _ _) | (with_reducible assumption) | (with_reducible refine Ex.alloc ?_ _) | ((with_reducible refine Ex.set_in ?_ ?_ _); (· first | (left; simp; done) | (right; simp; done) | (right; simp; omega) | (right; omega))) | ((with_reducible apply Ex.step); (· with_reducible assumption)))), ?_⟩)
                (refine anyB_end (by kernel_rfl) ?_; intro wj hbj; obtain ⟨hcj, hfj⟩ := ifs_of hbj; have hsj := hbj.size; (try simp at hsj); simp only [Calm])
                go_wp2_with fail
                go_meet
                exact ⟨_, rfl, rfl, (by repeat (first | (with_reducible assumption) | ((with_reducible apply Blk.new_at); (first | (simp; done) | (simp; omega))) | (with_reducible apply Blk.drew) | (with_reducible refine Blk.alloc ?_ _) | (with_reducible apply blk_two) | ((with_reducible refine blk_far ?_ ?_ _); (· first | (simp; done) | (simp; omega) | omega)) | ((with_reducible apply blk_kept); (· with_reducible assumption)))), (by repeat (first | (with_reducible exact Below.refl _ _) | (with_reducible assumption) | ((with_reducible refine Below.alloc ?_ ?_ _); rotate_left; (· first | (simp; done) | (simp; omega) | omega)) | ((with_reducible refine Below.setCell ?_ ?_ _); rotate_left; (· first | (simp; done) | (simp; omega) | omega)) | (with_reducible apply Below.drew) | ((with_reducible apply below_step); (· with_reducible assumption); rotate_left; (· first | (simp; done) | (simp; omega) | omega))))⟩
          case rest =>
            obtain ⟨gb, rfl, rfl, hB, hWc⟩ := hcut
            have hsW := hWc.size
            have BX2 := HBX.out.kept hWc
            have BD2 := HBD.out.kept hWc
            have vX2 := BX2.cell
            have hdc : ∀ j u, ((qL (dlV q d 12)).map (Value.int .i64))[j]? = some u → wc.cell? ((⟨w5.heap.size, 0, none⟩ : Addr).add j) = some u := fun j u hu => by
              rw [Addr.add_lit, Nat.zero_add, BD2.cell]
              simpa [qL] using hu
            have g5 : w5.heap.size < wc.heap.size := by omega
            have HDC := Lib.hid hdc
            have HBB := Lib.hid hB
            have lB := hB.lt
            clear vX hdc BX2 BD2 HZL hB
            have HZL := Lib.hid (qL_range (q := dlV q d 12) (fun j hj => dlV_in HQR.out d j))
            go_wp2_with fail
            go_cut [18, 19] (fun s18 s19 wx => ∃ g : Nat, s18 = .pointer (some ⟨g, 0, none⟩) ∧ s19 = .int .i64 0 ∧ Blk wx g 62 #[.int .i64 (balLo F L S (qL (dlV q d 12))), .int .i64 (balHi F L S (qL (dlV q d 12)))] ∧ Below wc.heap.size wc wx)
            case first =>
              as_aux_lemma =>
                (refine wp_region_calm [] [0, 2] 9 (by kernel_rfl) rfl (by kernel_rfl) (by kernel_rfl) (by kernel_rfl) ?_; simp only [pickB, List.filterMap_cons, List.filterMap_nil, List.getElem?_toArray, List.getElem?_cons_zero, List.getElem?_cons_succ]; (repeat (refine quietL_plain rfl (fun K hK => ?_); (apply Exists.intro; refine ⟨fun wx hx => ?_, ?_⟩; (· (have hcx := ifs_ex hx); simp [go_sem, *, ↓IntWalk.iteOmega] <;> (first | rfl | exact ⟨rfl, rfl⟩ | fail)); (simp only [Act.put, List.setIfInBounds_toArray, List.set_cons_zero, List.set_cons_succ]; refine hK _ ?_; clear hK K)))); refine quietL_nil ?_)
                refine anyB_two (i := 1) (j := 8) (by kernel_rfl) rfl rfl rfl rfl ?_ ?_
                · intro wa hba K hK
                  obtain ⟨hca, hfa⟩ := ifs_of hba; have hsa := hba.size; (try simp at hsa)
                  go_wp2
                  refine ⟨(by repeat (first | (with_reducible exact Ex.refl _ _) | (with_reducible assumption) | (with_reducible refine Ex.alloc ?_ _) | ((with_reducible refine Ex.set_in ?_ ?_ _); (· first | (left; simp; done) | (right; simp; done) | (right; simp; omega) | (right; omega))) | ((with_reducible apply Ex.step); (· with_reducible assumption)))), ?_⟩
                  have OA := Lib.hid (Own.new wa wc.heap.size 3 1 0 #[] (by omega) rfl (by decide))
                  refine anyB_two (i := 3) (j := 8) (by kernel_rfl) rfl rfl rfl rfl ?_ ?_
                  · intro wb hbb K hK
                    obtain ⟨hcb, hfb⟩ := ifs_of hbb; have hsb := hbb.size; (try simp at hsb)
                    refine wp_fresh 53 3 1 8 elemInt (.tmp 92) (.tmp 93) rfl wc.heap.size wa.heap.size rfl (by first | exact OA.out.kept hbb | exact ((OA.out.kept hbf).alloc _).kept hbb) ⟨w5.heap.size, 0, none⟩ 12 12 ((qL (dlV q d 12)).map (.int .i64)) rfl (fun j u hu => (Below.cell ((by repeat (first | (with_reducible exact Below.refl _ _) | (with_reducible assumption) | ((with_reducible refine Below.alloc ?_ ?_ _); rotate_left; (· first | (simp; done) | (simp; omega) | omega)) | ((with_reducible refine Below.setCell ?_ ?_ _); rotate_left; (· first | (simp; done) | (simp; omega) | omega)) | (with_reducible apply Below.drew) | ((with_reducible apply below_step); (· with_reducible assumption); rotate_left; (· first | (simp; done) | (simp; omega) | omega)))) : Below wc.heap.size wc wb) (by rw [Addr.add_lit]; exact g5)).trans (HDC.out j u hu)) rfl (row_one _) (by decide) (by unfold maxLen; decide) (by decide) (by omega) ?_
                    intro g cap wq hown hbc hkc
                    have hWc : Below wc.heap.size wc wq := ((by repeat (first | (with_reducible exact Below.refl _ _) | (with_reducible assumption) | ((with_reducible refine Below.alloc ?_ ?_ _); rotate_left; (· first | (simp; done) | (simp; omega) | omega)) | ((with_reducible refine Below.setCell ?_ ?_ _); rotate_left; (· first | (simp; done) | (simp; omega) | omega)) | (with_reducible apply Below.drew) | ((with_reducible apply below_step); (· with_reducible assumption); rotate_left; (· first | (simp; done) | (simp; omega) | omega)))) : Below wc.heap.size wc wb).trans hbc
                    have hXc : Ex [] wc wq := Ex.under (by repeat (first | (with_reducible exact Ex.refl _ _) | (with_reducible assumption) | (with_reducible refine Ex.alloc ?_ _) | ((with_reducible refine Ex.set_in ?_ ?_ _); (· first | (left; simp; done) | (right; simp; done) | (right; simp; omega) | (right; omega))) | ((with_reducible apply Ex.step); (· with_reducible assumption)))) hbc
                    have hgl := hown.lt
                    have hsc := hbc.size
                    refine hK _ _ ⟨hXc, ?_⟩
                    clear hK K
                    refine anyB_two (i := 4) (j := 8) (by kernel_rfl) rfl rfl rfl rfl ?_ ?_
                    · intro wd hbd K hK
                      obtain ⟨hcd, hfd⟩ := ifs_of hbd; have hsd := hbd.size; (try simp at hsd)
                      go_wp2_with fail
                      refine (Balance_any F L S (g + 1) _ 12 cap (qL (dlV q d 12)) _ hls (Own.reads (by first | exact hown.kept hbd | exact ((hown.kept hbf).alloc _).kept hbd)) (by omega) (by omega) HZL.out).mono ?_
                      rintro e we ⟨rfl, hbe⟩
                      obtain ⟨hce, hfe⟩ := ifs_of hbe; have hse := hbe.size; (try simp at hse)
                      go_wp2
                      refine ⟨(by repeat (first | (with_reducible exact Ex.refl _ _) | (with_reducible assumption) | (with_reducible refine Ex.alloc ?_ _) | ((with_reducible refine Ex.set_in ?_ ?_ _); (· first | (left; simp; done) | (right; simp; done) | (right; simp; omega) | (right; omega))) | ((with_reducible apply Ex.step); (· with_reducible assumption)))), ?_⟩
                      (refine anyB_quiet_at (by kernel_rfl) calm_panic (by repeat (first | (with_reducible exact Ex.refl _ _) | (with_reducible assumption) | (with_reducible refine Ex.alloc ?_ _) | ((with_reducible refine Ex.set_in ?_ ?_ _); (· first | (left; simp; done) | (right; simp; done) | (right; simp; omega) | (right; omega))) | ((with_reducible apply Ex.step); (· with_reducible assumption)))) 3 [5, 6, 7] _ _ (by kernel_rfl) (fun i hi => by simp only [List.mem_cons, List.not_mem_nil, or_false] at hi; rcases hi with rfl | rfl | rfl <;> (show _ < 11; decide)) ?_; simp only [pickB, List.filterMap_cons, List.filterMap_nil, List.getElem?_toArray, List.getElem?_cons_zero, List.getElem?_cons_succ]; (repeat (refine quietL_plain rfl (fun K hK => ?_); (apply Exists.intro; refine ⟨fun wx hx => ?_, ?_⟩; (· (have hcx := ifs_ex hx); simp [go_sem, *, ↓IntWalk.iteOmega] <;> (first | rfl | exact ⟨rfl, rfl⟩ | fail)); (simp only [Act.put, List.setIfInBounds_toArray, List.set_cons_zero, List.set_cons_succ]; refine hK _ ?_; clear hK K)))); refine quietL_nil ?_)
                      (refine anyB_one (i := 8) (by kernel_rfl) rfl rfl ?_; intro wf hbf K hK; obtain ⟨hcf, hff⟩ := ifs_of hbf; have hsf := hbf.size; (try simp at hsf); go_wp2; refine ⟨(by repeat (first | (with_reducible exact Ex.refl _ _) | (with_reducible assumption) | (with_reducible refine Ex.alloc ?_ _) | ((with_reducible refine Ex.set_in ?_ ?_ _); (· first | (left; simp; done) | (right; simp; done) | (right; simp; omega) | (right; omega))) | ((with_reducible apply Ex.step); (· with_reducible assumption)))), ?_⟩)
                      (refine anyB_one (i := 9) (by kernel_rfl) rfl rfl ?_; intro wh hbh K hK; obtain ⟨hch, hfh⟩ := ifs_of hbh; have hsh := hbh.size; (try simp at hsh); go_wp2; refine ⟨(by repeat (first | (with_reducible exact Ex.refl _ _) | (with_reducible assumption) | (with_reducible refine Ex.alloc ?_ _) | ((with_reducible refine Ex.set_in ?_ ?_ _); (· first | (left; simp; done) | (right; simp; done) | (right; simp; omega) | (right; omega))) | ((with_reducible apply Ex.step); (· with_reducible assumption)))), ?_⟩)
                      (refine anyB_one (i := 10) (by kernel_rfl) rfl rfl ?_; intro wi hbi K hK; obtain ⟨hci, hfi⟩ := ifs_of hbi; have hsi := hbi.size; (try simp at hsi); go_wp2; refine ⟨(by repeat (first | (with_reducible exact Ex.refl _ _) | (with_reducible assumption) | (with_reducible refine Ex.alloc ?_ _) | ((with_reducible refine Ex.set_in ?_ ?_ _); (· first | (left; simp; done) | (right; simp; done) | (right; simp; omega) | (right; omega))) | ((with_reducible apply Ex.step); (· with_reducible assumption)))), ?_⟩)
                      (refine anyB_end (by kernel_rfl) ?_; intro wj hbj; obtain ⟨hcj, hfj⟩ := ifs_of hbj; have hsj := hbj.size; (try simp at hsj); simp only [Calm])
                      go_wp2_with fail
                      go_meet
                      exact ⟨_, rfl, rfl, (by repeat (first | (with_reducible assumption) | ((with_reducible apply Blk.new_at); (first | (simp; done) | (simp; omega))) | (with_reducible apply Blk.drew) | (with_reducible refine Blk.alloc ?_ _) | (with_reducible apply blk_two) | ((with_reducible refine blk_far ?_ ?_ _); (· first | (simp; done) | (simp; omega) | omega)) | ((with_reducible apply blk_kept); (· with_reducible assumption)))), (by repeat (first | (with_reducible exact Below.refl _ _) | (with_reducible assumption) | ((with_reducible refine Below.alloc ?_ ?_ _); rotate_left; (· first | (simp; done) | (simp; omega) | omega)) | ((with_reducible refine Below.setCell ?_ ?_ _); rotate_left; (· first | (simp; done) | (simp; omega) | omega)) | (with_reducible apply Below.drew) | ((with_reducible apply below_step); (· with_reducible assumption); rotate_left; (· first | (simp; done) | (simp; omega) | omega))))⟩
                    · intro wf hbf K hK
                      obtain ⟨hcf, hff⟩ := ifs_of hbf; have hsf := hbf.size; (try simp at hsf)
                      go_wp2
                      refine ⟨(by repeat (first | (with_reducible exact Ex.refl _ _) | (with_reducible assumption) | (with_reducible refine Ex.alloc ?_ _) | ((with_reducible refine Ex.set_in ?_ ?_ _); (· first | (left; simp; done) | (right; simp; done) | (right; simp; omega) | (right; omega))) | ((with_reducible apply Ex.step); (· with_reducible assumption)))), ?_⟩
                      refine anyB_one (i := 4) (by kernel_rfl) rfl rfl ?_
                      intro wd hbd K hK
                      obtain ⟨hcd, hfd⟩ := ifs_of hbd; have hsd := hbd.size; (try simp at hsd)
                      go_wp2_with fail
                      refine (Balance_any F L S (g + 1) _ 12 cap (qL (dlV q d 12)) _ hls (Own.reads (by first | exact hown.kept hbd | exact ((hown.kept hbf).alloc _).kept hbd)) (by omega) (by omega) HZL.out).mono ?_
                      rintro e we ⟨rfl, hbe⟩
                      obtain ⟨hce, hfe⟩ := ifs_of hbe; have hse := hbe.size; (try simp at hse)
                      go_wp2
                      refine ⟨(by repeat (first | (with_reducible exact Ex.refl _ _) | (with_reducible assumption) | (with_reducible refine Ex.alloc ?_ _) | ((with_reducible refine Ex.set_in ?_ ?_ _); (· first | (left; simp; done) | (right; simp; done) | (right; simp; omega) | (right; omega))) | ((with_reducible apply Ex.step); (· with_reducible assumption)))), ?_⟩
                      (refine anyB_quiet_at (by kernel_rfl) calm_panic (by repeat (first | (with_reducible exact Ex.refl _ _) | (with_reducible assumption) | (with_reducible refine Ex.alloc ?_ _) | ((with_reducible refine Ex.set_in ?_ ?_ _); (· first | (left; simp; done) | (right; simp; done) | (right; simp; omega) | (right; omega))) | ((with_reducible apply Ex.step); (· with_reducible assumption)))) 2 [5, 6, 7] _ _ (by kernel_rfl) (fun i hi => by simp only [List.mem_cons, List.not_mem_nil, or_false] at hi; rcases hi with rfl | rfl | rfl <;> (show _ < 11; decide)) ?_; simp only [pickB, List.filterMap_cons, List.filterMap_nil, List.getElem?_toArray, List.getElem?_cons_zero, List.getElem?_cons_succ]; (repeat (refine quietL_plain rfl (fun K hK => ?_); (apply Exists.intro; refine ⟨fun wx hx => ?_, ?_⟩; (· (have hcx := ifs_ex hx); simp [go_sem, *, ↓IntWalk.iteOmega] <;> (first | rfl | exact ⟨rfl, rfl⟩ | fail)); (simp only [Act.put, List.setIfInBounds_toArray, List.set_cons_zero, List.set_cons_succ]; refine hK _ ?_; clear hK K)))); refine quietL_nil ?_)
                      (refine anyB_one (i := 9) (by kernel_rfl) rfl rfl ?_; intro wh hbh K hK; obtain ⟨hch, hfh⟩ := ifs_of hbh; have hsh := hbh.size; (try simp at hsh); go_wp2; refine ⟨(by repeat (first | (with_reducible exact Ex.refl _ _) | (with_reducible assumption) | (with_reducible refine Ex.alloc ?_ _) | ((with_reducible refine Ex.set_in ?_ ?_ _); (· first | (left; simp; done) | (right; simp; done) | (right; simp; omega) | (right; omega))) | ((with_reducible apply Ex.step); (· with_reducible assumption)))), ?_⟩)
                      (refine anyB_one (i := 10) (by kernel_rfl) rfl rfl ?_; intro wi hbi K hK; obtain ⟨hci, hfi⟩ := ifs_of hbi; have hsi := hbi.size; (try simp at hsi); go_wp2; refine ⟨(by repeat (first | (with_reducible exact Ex.refl _ _) | (with_reducible assumption) | (with_reducible refine Ex.alloc ?_ _) | ((with_reducible refine Ex.set_in ?_ ?_ _); (· first | (left; simp; done) | (right; simp; done) | (right; simp; omega) | (right; omega))) | ((with_reducible apply Ex.step); (· with_reducible assumption)))), ?_⟩)
                      (refine anyB_end (by kernel_rfl) ?_; intro wj hbj; obtain ⟨hcj, hfj⟩ := ifs_of hbj; have hsj := hbj.size; (try simp at hsj); simp only [Calm])
                      go_wp2_with fail
                      go_meet
                      exact ⟨_, rfl, rfl, (by repeat (first | (with_reducible assumption) | ((with_reducible apply Blk.new_at); (first | (simp; done) | (simp; omega))) | (with_reducible apply Blk.drew) | (with_reducible refine Blk.alloc ?_ _) | (with_reducible apply blk_two) | ((with_reducible refine blk_far ?_ ?_ _); (· first | (simp; done) | (simp; omega) | omega)) | ((with_reducible apply blk_kept); (· with_reducible assumption)))), (by repeat (first | (with_reducible exact Below.refl _ _) | (with_reducible assumption) | ((with_reducible refine Below.alloc ?_ ?_ _); rotate_left; (· first | (simp; done) | (simp; omega) | omega)) | ((with_reducible refine Below.setCell ?_ ?_ _); rotate_left; (· first | (simp; done) | (simp; omega) | omega)) | (with_reducible apply Below.drew) | ((with_reducible apply below_step); (· with_reducible assumption); rotate_left; (· first | (simp; done) | (simp; omega) | omega))))⟩
                  · intro wf hbf K hK
                    obtain ⟨hcf, hff⟩ := ifs_of hbf; have hsf := hbf.size; (try simp at hsf)
                    go_wp2
                    refine ⟨(by repeat (first | (with_reducible exact Ex.refl _ _) | (with_reducible assumption) | (with_reducible refine Ex.alloc ?_ _) | ((with_reducible refine Ex.set_in ?_ ?_ _); (· first | (left; simp; done) | (right; simp; done) | (right; simp; omega) | (right; omega))) | ((with_reducible apply Ex.step); (· with_reducible assumption)))), ?_⟩
                    refine anyB_one (i := 3) (by kernel_rfl) rfl rfl ?_
                    intro wb hbb K hK
                    obtain ⟨hcb, hfb⟩ := ifs_of hbb; have hsb := hbb.size; (try simp at hsb)
                    refine wp_fresh 53 3 1 8 elemInt (.tmp 92) (.tmp 93) rfl wc.heap.size wa.heap.size rfl (by first | exact OA.out.kept hbb | exact ((OA.out.kept hbf).alloc _).kept hbb) ⟨w5.heap.size, 0, none⟩ 12 12 ((qL (dlV q d 12)).map (.int .i64)) rfl (fun j u hu => (Below.cell ((by repeat (first | (with_reducible exact Below.refl _ _) | (with_reducible assumption) | ((with_reducible refine Below.alloc ?_ ?_ _); rotate_left; (· first | (simp; done) | (simp; omega) | omega)) | ((with_reducible refine Below.setCell ?_ ?_ _); rotate_left; (· first | (simp; done) | (simp; omega) | omega)) | (with_reducible apply Below.drew) | ((with_reducible apply below_step); (· with_reducible assumption); rotate_left; (· first | (simp; done) | (simp; omega) | omega)))) : Below wc.heap.size wc wb) (by rw [Addr.add_lit]; exact g5)).trans (HDC.out j u hu)) rfl (row_one _) (by decide) (by unfold maxLen; decide) (by decide) (by omega) ?_
                    intro g cap wq hown hbc hkc
                    have hWc : Below wc.heap.size wc wq := ((by repeat (first | (with_reducible exact Below.refl _ _) | (with_reducible assumption) | ((with_reducible refine Below.alloc ?_ ?_ _); rotate_left; (· first | (simp; done) | (simp; omega) | omega)) | ((with_reducible refine Below.setCell ?_ ?_ _); rotate_left; (· first | (simp; done) | (simp; omega) | omega)) | (with_reducible apply Below.drew) | ((with_reducible apply below_step); (· with_reducible assumption); rotate_left; (· first | (simp; done) | (simp; omega) | omega)))) : Below wc.heap.size wc wb).trans hbc
                    have hXc : Ex [] wc wq := Ex.under (by repeat (first | (with_reducible exact Ex.refl _ _) | (with_reducible assumption) | (with_reducible refine Ex.alloc ?_ _) | ((with_reducible refine Ex.set_in ?_ ?_ _); (· first | (left; simp; done) | (right; simp; done) | (right; simp; omega) | (right; omega))) | ((with_reducible apply Ex.step); (· with_reducible assumption)))) hbc
                    have hBf : Blk wq wf.heap.size 62 #[.int .i64 0, .int .i64 0] := hkc _ _ _ (by omega) ((by repeat (first | (with_reducible assumption) | ((with_reducible apply Blk.new_at); (first | (simp; done) | (simp; omega))) | (with_reducible apply Blk.drew) | (with_reducible refine Blk.alloc ?_ _) | (with_reducible apply blk_two) | ((with_reducible refine blk_far ?_ ?_ _); (· first | (simp; done) | (simp; omega) | omega)) | ((with_reducible apply blk_kept); (· with_reducible assumption)))) : Blk wb wf.heap.size _ _)
                    have hcf := hBf.cell
                    have hff := hBf.frozen
                    have hgl := hown.lt
                    have hsc := hbc.size
                    refine hK _ _ ⟨hXc, ?_⟩
                    clear hK K
                    refine anyB_one (i := 4) (by kernel_rfl) rfl rfl ?_
                    intro wd hbd K hK
                    obtain ⟨hcd, hfd⟩ := ifs_of hbd; have hsd := hbd.size; (try simp at hsd)
                    go_wp2_with fail
                    refine (Balance_any F L S (g + 1) _ 12 cap (qL (dlV q d 12)) _ hls (Own.reads (by first | exact hown.kept hbd | exact ((hown.kept hbf).alloc _).kept hbd)) (by omega) (by omega) HZL.out).mono ?_
                    rintro e we ⟨rfl, hbe⟩
                    obtain ⟨hce, hfe⟩ := ifs_of hbe; have hse := hbe.size; (try simp at hse)
                    go_wp2
                    refine ⟨(by repeat (first | (with_reducible exact Ex.refl _ _) | (with_reducible assumption) | (with_reducible refine Ex.alloc ?_ _) | ((with_reducible refine Ex.set_in ?_ ?_ _); (· first | (left; simp; done) | (right; simp; done) | (right; simp; omega) | (right; omega))) | ((with_reducible apply Ex.step); (· with_reducible assumption)))), ?_⟩
                    (refine anyB_quiet_at (by kernel_rfl) calm_panic (by repeat (first | (with_reducible exact Ex.refl _ _) | (with_reducible assumption) | (with_reducible refine Ex.alloc ?_ _) | ((with_reducible refine Ex.set_in ?_ ?_ _); (· first | (left; simp; done) | (right; simp; done) | (right; simp; omega) | (right; omega))) | ((with_reducible apply Ex.step); (· with_reducible assumption)))) 2 [5, 6, 7] _ _ (by kernel_rfl) (fun i hi => by simp only [List.mem_cons, List.not_mem_nil, or_false] at hi; rcases hi with rfl | rfl | rfl <;> (show _ < 11; decide)) ?_; simp only [pickB, List.filterMap_cons, List.filterMap_nil, List.getElem?_toArray, List.getElem?_cons_zero, List.getElem?_cons_succ]; (repeat (refine quietL_plain rfl (fun K hK => ?_); (apply Exists.intro; refine ⟨fun wx hx => ?_, ?_⟩; (· (have hcx := ifs_ex hx); simp [go_sem, *, ↓IntWalk.iteOmega] <;> (first | rfl | exact ⟨rfl, rfl⟩ | fail)); (simp only [Act.put, List.setIfInBounds_toArray, List.set_cons_zero, List.set_cons_succ]; refine hK _ ?_; clear hK K)))); refine quietL_nil ?_)
                    (refine anyB_one (i := 9) (by kernel_rfl) rfl rfl ?_; intro wh hbh K hK; obtain ⟨hch, hfh⟩ := ifs_of hbh; have hsh := hbh.size; (try simp at hsh); go_wp2; refine ⟨(by repeat (first | (with_reducible exact Ex.refl _ _) | (with_reducible assumption) | (with_reducible refine Ex.alloc ?_ _) | ((with_reducible refine Ex.set_in ?_ ?_ _); (· first | (left; simp; done) | (right; simp; done) | (right; simp; omega) | (right; omega))) | ((with_reducible apply Ex.step); (· with_reducible assumption)))), ?_⟩)
                    (refine anyB_one (i := 10) (by kernel_rfl) rfl rfl ?_; intro wi hbi K hK; obtain ⟨hci, hfi⟩ := ifs_of hbi; have hsi := hbi.size; (try simp at hsi); go_wp2; refine ⟨(by repeat (first | (with_reducible exact Ex.refl _ _) | (with_reducible assumption) | (with_reducible refine Ex.alloc ?_ _) | ((with_reducible refine Ex.set_in ?_ ?_ _); (· first | (left; simp; done) | (right; simp; done) | (right; simp; omega) | (right; omega))) | ((with_reducible apply Ex.step); (· with_reducible assumption)))), ?_⟩)
                    (refine anyB_end (by kernel_rfl) ?_; intro wj hbj; obtain ⟨hcj, hfj⟩ := ifs_of hbj; have hsj := hbj.size; (try simp at hsj); simp only [Calm])
                    go_wp2_with fail
                    go_meet
                    exact ⟨_, rfl, rfl, (by repeat (first | (with_reducible assumption) | ((with_reducible apply Blk.new_at); (first | (simp; done) | (simp; omega))) | (with_reducible apply Blk.drew) | (with_reducible refine Blk.alloc ?_ _) | (with_reducible apply blk_two) | ((with_reducible refine blk_far ?_ ?_ _); (· first | (simp; done) | (simp; omega) | omega)) | ((with_reducible apply blk_kept); (· with_reducible assumption)))), (by repeat (first | (with_reducible exact Below.refl _ _) | (with_reducible assumption) | ((with_reducible refine Below.alloc ?_ ?_ _); rotate_left; (· first | (simp; done) | (simp; omega) | omega)) | ((with_reducible refine Below.setCell ?_ ?_ _); rotate_left; (· first | (simp; done) | (simp; omega) | omega)) | (with_reducible apply Below.drew) | ((with_reducible apply below_step); (· with_reducible assumption); rotate_left; (· first | (simp; done) | (simp; omega) | omega))))⟩
                · intro wf hbf K hK
                  obtain ⟨hcf, hff⟩ := ifs_of hbf; have hsf := hbf.size; (try simp at hsf)
                  go_wp2
                  refine ⟨(by repeat (first | (with_reducible exact Ex.refl _ _) | (with_reducible assumption) | (with_reducible refine Ex.alloc ?_ _) | ((with_reducible refine Ex.set_in ?_ ?_ _); (· first | (left; simp; done) | (right; simp; done) | (right; simp; omega) | (right; omega))) | ((with_reducible apply Ex.step); (· with_reducible assumption)))), ?_⟩
                  refine anyB_one (i := 1) (by kernel_rfl) rfl rfl ?_
                  intro wa hba K hK
                  obtain ⟨hca, hfa⟩ := ifs_of hba; have hsa := hba.size; (try simp at hsa)
                  go_wp2
                  refine ⟨(by repeat (first | (with_reducible exact Ex.refl _ _) | (with_reducible assumption) | (with_reducible refine Ex.alloc ?_ _) | ((with_reducible refine Ex.set_in ?_ ?_ _); (· first | (left; simp; done) | (right; simp; done) | (right; simp; omega) | (right; omega))) | ((with_reducible apply Ex.step); (· with_reducible assumption)))), ?_⟩
                  have OA := Lib.hid (Own.new wa wc.heap.size 3 1 0 #[] (by omega) rfl (by decide))
                  refine anyB_one (i := 3) (by kernel_rfl) rfl rfl ?_
                  intro wb hbb K hK
                  obtain ⟨hcb, hfb⟩ := ifs_of hbb; have hsb := hbb.size; (try simp at hsb)
                  refine wp_fresh 53 3 1 8 elemInt (.tmp 92) (.tmp 93) rfl wc.heap.size wa.heap.size rfl (by first | exact OA.out.kept hbb | exact ((OA.out.kept hbf).alloc _).kept hbb) ⟨w5.heap.size, 0, none⟩ 12 12 ((qL (dlV q d 12)).map (.int .i64)) rfl (fun j u hu => (Below.cell ((by repeat (first | (with_reducible exact Below.refl _ _) | (with_reducible assumption) | ((with_reducible refine Below.alloc ?_ ?_ _); rotate_left; (· first | (simp; done) | (simp; omega) | omega)) | ((with_reducible refine Below.setCell ?_ ?_ _); rotate_left; (· first | (simp; done) | (simp; omega) | omega)) | (with_reducible apply Below.drew) | ((with_reducible apply below_step); (· with_reducible assumption); rotate_left; (· first | (simp; done) | (simp; omega) | omega)))) : Below wc.heap.size wc wb) (by rw [Addr.add_lit]; exact g5)).trans (HDC.out j u hu)) rfl (row_one _) (by decide) (by unfold maxLen; decide) (by decide) (by omega) ?_
                  intro g cap wq hown hbc hkc
                  have hWc : Below wc.heap.size wc wq := ((by repeat (first | (with_reducible exact Below.refl _ _) | (with_reducible assumption) | ((with_reducible refine Below.alloc ?_ ?_ _); rotate_left; (· first | (simp; done) | (simp; omega) | omega)) | ((with_reducible refine Below.setCell ?_ ?_ _); rotate_left; (· first | (simp; done) | (simp; omega) | omega)) | (with_reducible apply Below.drew) | ((with_reducible apply below_step); (· with_reducible assumption); rotate_left; (· first | (simp; done) | (simp; omega) | omega)))) : Below wc.heap.size wc wb).trans hbc
                  have hXc : Ex [] wc wq := Ex.under (by repeat (first | (with_reducible exact Ex.refl _ _) | (with_reducible assumption) | (with_reducible refine Ex.alloc ?_ _) | ((with_reducible refine Ex.set_in ?_ ?_ _); (· first | (left; simp; done) | (right; simp; done) | (right; simp; omega) | (right; omega))) | ((with_reducible apply Ex.step); (· with_reducible assumption)))) hbc
                  have hBf : Blk wq wf.heap.size 62 #[.int .i64 0, .int .i64 0] := hkc _ _ _ (by omega) ((by repeat (first | (with_reducible assumption) | ((with_reducible apply Blk.new_at); (first | (simp; done) | (simp; omega))) | (with_reducible apply Blk.drew) | (with_reducible refine Blk.alloc ?_ _) | (with_reducible apply blk_two) | ((with_reducible refine blk_far ?_ ?_ _); (· first | (simp; done) | (simp; omega) | omega)) | ((with_reducible apply blk_kept); (· with_reducible assumption)))) : Blk wb wf.heap.size _ _)
                  have hcf := hBf.cell
                  have hff := hBf.frozen
                  have hgl := hown.lt
                  have hsc := hbc.size
                  refine hK _ _ ⟨hXc, ?_⟩
                  clear hK K
                  refine anyB_one (i := 4) (by kernel_rfl) rfl rfl ?_
                  intro wd hbd K hK
                  obtain ⟨hcd, hfd⟩ := ifs_of hbd; have hsd := hbd.size; (try simp at hsd)
                  go_wp2_with fail
                  refine (Balance_any F L S (g + 1) _ 12 cap (qL (dlV q d 12)) _ hls (Own.reads (by first | exact hown.kept hbd | exact ((hown.kept hbf).alloc _).kept hbd)) (by omega) (by omega) HZL.out).mono ?_
                  rintro e we ⟨rfl, hbe⟩
                  obtain ⟨hce, hfe⟩ := ifs_of hbe; have hse := hbe.size; (try simp at hse)
                  go_wp2
                  refine ⟨(by repeat (first | (with_reducible exact Ex.refl _ _) | (with_reducible assumption) | (with_reducible refine Ex.alloc ?_ _) | ((with_reducible refine Ex.set_in ?_ ?_ _); (· first | (left; simp; done) | (right; simp; done) | (right; simp; omega) | (right; omega))) | ((with_reducible apply Ex.step); (· with_reducible assumption)))), ?_⟩
                  (refine anyB_quiet_at (by kernel_rfl) calm_panic (by repeat (first | (with_reducible exact Ex.refl _ _) | (with_reducible assumption) | (with_reducible refine Ex.alloc ?_ _) | ((with_reducible refine Ex.set_in ?_ ?_ _); (· first | (left; simp; done) | (right; simp; done) | (right; simp; omega) | (right; omega))) | ((with_reducible apply Ex.step); (· with_reducible assumption)))) 2 [5, 6, 7] _ _ (by kernel_rfl) (fun i hi => by simp only [List.mem_cons, List.not_mem_nil, or_false] at hi; rcases hi with rfl | rfl | rfl <;> (show _ < 11; decide)) ?_; simp only [pickB, List.filterMap_cons, List.filterMap_nil, List.getElem?_toArray, List.getElem?_cons_zero, List.getElem?_cons_succ]; (repeat (refine quietL_plain rfl (fun K hK => ?_); (apply Exists.intro; refine ⟨fun wx hx => ?_, ?_⟩; (· (have hcx := ifs_ex hx); simp [go_sem, *, ↓IntWalk.iteOmega] <;> (first | rfl | exact ⟨rfl, rfl⟩ | fail)); (simp only [Act.put, List.setIfInBounds_toArray, List.set_cons_zero, List.set_cons_succ]; refine hK _ ?_; clear hK K)))); refine quietL_nil ?_)
                  (refine anyB_one (i := 9) (by kernel_rfl) rfl rfl ?_; intro wh hbh K hK; obtain ⟨hch, hfh⟩ := ifs_of hbh; have hsh := hbh.size; (try simp at hsh); go_wp2; refine ⟨(by repeat (first | (with_reducible exact Ex.refl _ _) | (with_reducible assumption) | (with_reducible refine Ex.alloc ?_ _) | ((with_reducible refine Ex.set_in ?_ ?_ _); (· first | (left; simp; done) | (right; simp; done) | (right; simp; omega) | (right; omega))) | ((with_reducible apply Ex.step); (· with_reducible assumption)))), ?_⟩)
                  (refine anyB_one (i := 10) (by kernel_rfl) rfl rfl ?_; intro wi hbi K hK; obtain ⟨hci, hfi⟩ := ifs_of hbi; have hsi := hbi.size; (try simp at hsi); go_wp2; refine ⟨(by repeat (first | (with_reducible exact Ex.refl _ _) | (with_reducible assumption) | (with_reducible refine Ex.alloc ?_ _) | ((with_reducible refine Ex.set_in ?_ ?_ _); (· first | (left; simp; done) | (right; simp; done) | (right; simp; omega) | (right; omega))) | ((with_reducible apply Ex.step); (· with_reducible assumption)))), ?_⟩)
                  (refine anyB_end (by kernel_rfl) ?_; intro wj hbj; obtain ⟨hcj, hfj⟩ := ifs_of hbj; have hsj := hbj.size; (try simp at hsj); simp only [Calm])
                  go_wp2_with fail
                  go_meet
                  exact ⟨_, rfl, rfl, (by repeat (first | (with_reducible assumption) | ((with_reducible apply Blk.new_at); (first | (simp; done) | (simp; omega))) | (with_reducible apply Blk.drew) | (with_reducible refine Blk.alloc ?_ _) | (with_reducible apply blk_two) | ((with_reducible refine blk_far ?_ ?_ _); (· first | (simp; done) | (simp; omega) | omega)) | ((with_reducible apply blk_kept); (· with_reducible assumption)))), (by repeat (first | (with_reducible exact Below.refl _ _) | (with_reducible assumption) | ((with_reducible refine Below.alloc ?_ ?_ _); rotate_left; (· first | (simp; done) | (simp; omega) | omega)) | ((with_reducible refine Below.setCell ?_ ?_ _); rotate_left; (· first | (simp; done) | (simp; omega) | omega)) | (with_reducible apply Below.drew) | ((with_reducible apply below_step); (· with_reducible assumption); rotate_left; (· first | (simp; done) | (simp; omega) | omega))))⟩
            case rest =>
              obtain ⟨gc, rfl, rfl, hC, hWd⟩ := hcut
              rw [show balLo F L S (qL (dlV q d 12)) = balLo F L S (qL q) from bal_rot (dlLo F L S) q d, show balHi F L S (qL (dlV q d 12)) = balHi F L S (qL q) from bal_rot (dlHi F L S) q d] at hC
              have hWW := below_trans hWc hWd
              have BB3 := HBB.out.kept hWd
              have HB3 := Lib.hid BB3
              have vB := BB3.cell
              have vC := hC.cell
              have HPL := Lib.hid (fun hc => bal_plain (F := F) (L := L) (S := S) (q := q) hc)
              have HB5 := Lib.hid (HBS.out.kept hWW)
              have HX3 := Lib.hid (HBX.out.kept hWW)
              have sW3 := hWd.size
              clear BB3 vX2 HDC HBB HBD HBS HZL hC
              generalize balLo F L S (qL q) = lo at *
              generalize balHi F L S (qL q) = hi at *
              go_wp2_with (refine wpList_load_row rfl 56 (.tmp 12) rfl w3.heap.size rfl 56 SP (0, 0) _ HB5.out Tryd.underlying56 rfl E2.out ?_)
              clear vB vC
              go_loopw [20, 118] (fun s i wr2 => ∃ k : Nat, k ≤ 12 ∧ i = .int .i64 k ∧ s = .int .i64 (allS q k) ∧ Below wc.heap.size wc wr2) (fun _ i _ => 12 - (intOf i).toNat)
              case atStart => exact ⟨0, by omega, rfl, rfl, (by repeat (first | (with_reducible exact Below.refl _ _) | (with_reducible assumption) | ((with_reducible refine Below.alloc ?_ ?_ _); rotate_left; (· first | (simp; done) | (simp; omega) | omega)) | ((with_reducible refine Below.setCell ?_ ?_ _); rotate_left; (· first | (simp; done) | (simp; omega) | omega)) | (with_reducible apply Below.drew) | ((with_reducible apply below_step); (· with_reducible assumption); rotate_left; (· first | (simp; done) | (simp; omega) | omega))))⟩
              case round =>
                obtain ⟨k, hk, rfl, rfl, hb⟩ := hrel
                have hs := hb.size
                obtain ⟨s1, s2⟩ := allS_bd HQP.out k hk
                by_cases hlt : k < 12
                · have hi := HIX2.out k hlt
                  have X0 := stX_of HQP.out hlt
                  have T : Hid (allS q (k + 1) = allS q k + stA (spcV q 12 k)) := by show _ = _; have := X0.sa; omega
                  obtain ⟨x1, x2, x3, x4, x5, x6⟩ := X0
                  clear x2
                  have ht := fun W => Strength_any (spcV q 12 k) W x1
                  have HT := Lib.hid ht
                  clear ht x1
                  generalize spcV q 12 k = x at *
                  generalize stA x = u at *
                  generalize stB x = v at *
                  generalize allS q k = s at *
                  go_wp2_with (first | (go_at_call 21; refine (HT.out _).mono ?_; rintro e w8 ⟨rfl, hb8⟩; obtain ⟨hc8, hf8⟩ := ifs_of hb8; have hs8 := hb8.size; (try simp at hs8)) | (go_at_call 22; refine (rRoot_any _ _ _ ⟨x3, x4⟩ ⟨x5, x6⟩).mono ?_; rintro e w9 ⟨rfl, hb9⟩; obtain ⟨hc9, hf9⟩ := ifs_of hb9; have hs9 := hb9.size; (try simp at hs9)))
                  go_roundw
                  case rel => exact ⟨k + 1, by omega, by go_num, by rw [T.out], (by repeat (first | (with_reducible exact Below.refl _ _) | (with_reducible assumption) | ((with_reducible refine Below.alloc ?_ ?_ _); rotate_left; (· first | (simp; done) | (simp; omega) | omega)) | ((with_reducible refine Below.setCell ?_ ?_ _); rotate_left; (· first | (simp; done) | (simp; omega) | omega)) | (with_reducible apply Below.drew) | ((with_reducible apply below_step); (· with_reducible assumption); rotate_left; (· first | (simp; done) | (simp; omega) | omega))))⟩
                  case measure => simp [intOf]; omega
                · obtain rfl : k = 12 := by omega
                  have eA : allS q 12 = 12 * sqS q 12 := parseval q
                  rw [eA, show ((12 : Nat) : Int) = 12 from rfl]
                  clear eA s1 s2
                  have hwr := below_trans hWW hb
                  have HX4 := Lib.hid (HX3.out.kept hb)
                  have HB4 := Lib.hid (HB3.out.kept hb)
                  have u1 := sqS_bd HQR.out 12 (by omega)
                  obtain ⟨u11, u12⟩ := u1
                  have lX4 := HX4.out.lt
                  have lB4 := HB4.out.lt
                  have EB := Lib.hid (exl_bounds hls HQR.out 12 (by omega))
                  have lR : ∀ j, j < 12 → 0 ≤ lossLo F L S (q j) ∧ lossLo F L S (q j) ≤ lossHi F L S (q j) ∧ lossHi F L S (q j) ≤ lossLo F L S (q j) + 1 ∧ lossHi F L S (q j) ≤ 10000 := fun j hj => loss_range hls (HQR.out j hj).1 (by have := HQR.out j hj; omega)
                  have LR := Lib.hid lR
                  clear lR
                  unfold exl at EB
                  generalize sqS q 12 = u at *
                  go_wp2_with fail
                  go_loopw [26, 28, 29, 30, 140] (fun cu _ _ _ i wx => ∃ (k : Nat) (b : Bool), k ≤ 12 ∧ i = .int .i64 k ∧ cu = .bool b ∧ (b = false → ∀ j, j < k → lossHi F L S (q j) ≤ q j) ∧ Blk wx wr.heap.size 62 #[.int .i64 (sumS (fun j => lossLo F L S (q j)) k), .int .i64 (sumS (fun j => lossHi F L S (q j)) k)] ∧ Below wr.heap.size wr wx) (fun _ _ _ _ i _ => 12 - (intOf i).toNat)
                  case atStart => exact ⟨0, false, by omega, rfl, rfl, fun _ j hj => by omega, (by show Blk _ _ _ #[.int .i64 0, .int .i64 0]; exact (by repeat (first | (with_reducible assumption) | ((with_reducible apply Blk.new_at); (first | (simp; done) | (simp; omega))) | (with_reducible apply Blk.drew) | (with_reducible refine Blk.alloc ?_ _) | (with_reducible apply blk_two) | ((with_reducible refine blk_far ?_ ?_ _); (· first | (simp; done) | (simp; omega) | omega)) | ((with_reducible apply blk_kept); (· with_reducible assumption))))), (by repeat (first | (with_reducible exact Below.refl _ _) | (with_reducible assumption) | ((with_reducible refine Below.alloc ?_ ?_ _); rotate_left; (· first | (simp; done) | (simp; omega) | omega)) | ((with_reducible refine Below.setCell ?_ ?_ _); rotate_left; (· first | (simp; done) | (simp; omega) | omega)) | (with_reducible apply Below.drew) | ((with_reducible apply below_step); (· with_reducible assumption); rotate_left; (· first | (simp; done) | (simp; omega) | omega))))⟩
                  case round =>
                    obtain ⟨k, b, hk, rfl, rfl, hcut, hA, hbx⟩ := hrel
                    have HCUT := Lib.hid hcut
                    have hsx := hbx.size
                    have HA := Lib.hid hA
                    have lA := hA.lt
                    have vA := hA.cell
                    have fA := hA.frozen
                    have sb1 := sumS_bd (f := fun j => lossLo F L S (q j)) (M := 10000) (fun j hj => by have := LR.out j hj; omega) k hk
                    have sb2 := sumS_bd (f := fun j => lossHi F L S (q j)) (M := 10000) (fun j hj => by have := LR.out j hj; omega) k hk
                    obtain ⟨sb11, sb12⟩ := sb1
                    obtain ⟨sb21, sb22⟩ := sb2
                    clear hcut hA
                    have vX5 := (HX4.out.kept hbx).cell
                    by_cases hlt : k < 12
                    · have T1 : Hid (sumS (fun j => lossLo F L S (q j)) (k + 1) = sumS (fun j => lossLo F L S (q j)) k + lossLo F L S (q k)) := rfl
                      have T2 : Hid (sumS (fun j => lossHi F L S (q j)) (k + 1) = sumS (fun j => lossHi F L S (q j)) k + lossHi F L S (q k)) := rfl
                      obtain ⟨r1, r2, r3, r4⟩ := LR.out k hlt
                      obtain ⟨z1, z2⟩ := HQR.out k hlt
                      have HL := Lib.hid (fun Wx => Loss_any F L S (q k) Wx hls z1 (by omega))
                      have hcell := ((below_trans hwr hbx).cell (p := ((⟨b7, o7, none⟩ : Addr).add k)) (by rw [Addr.add_lit]; exact g7)).trans (HW7.out k _ (qL_get q hlt))
                      rw [Addr.add_lit] at hcell
                      have HN2 : Hid (b = false ∧ lossHi F L S (q k) ≤ q k → ∀ j, j < k + 1 → lossHi F L S (q j) ≤ q j) := fun h2 j hj => by
                        by_cases hjk : j = k
                        · rw [hjk]; exact h2.2
                        · exact HCUT.out h2.1 j (by omega)
                      clear HCUT
                      generalize lossLo F L S (q k) = x at *
                      generalize lossHi F L S (q k) = y at *
                      generalize sumS (fun j => lossLo F L S (q j)) k = s1 at *
                      generalize sumS (fun j => lossHi F L S (q j)) k = s2 at *
                      generalize hqk : q k = z at *
                      clear hqk
                      cases b with
                      | true =>
                        as_aux_lemma =>
                          go_wp2_with fail
                          refine (HL.out _).mono ?_
                          rintro e w10 ⟨rfl, hb10⟩
                          obtain ⟨hc10, hf10⟩ := ifs_of hb10; have hs10 := hb10.size; (try simp at hs10)
                          go_upto_region 37 with fail
                          go_wp2
                          go_roundw
                          case rel =>
                            have za := HA.out
                            exact ⟨k + 1, true, by omega, by go_num, by first | rfl | (simp; done) | (simp; omega), (fun h => by cases h), by rw [T1.out, T2.out]; exact (by repeat (first | (with_reducible assumption) | ((with_reducible apply Blk.new_at); (first | (simp; done) | (simp; omega))) | (with_reducible apply Blk.drew) | (with_reducible refine Blk.alloc ?_ _) | (with_reducible apply blk_two) | ((with_reducible refine blk_far ?_ ?_ _); (· first | (simp; done) | (simp; omega) | omega)) | ((with_reducible apply blk_kept); (· with_reducible assumption)))), (by repeat (first | (with_reducible exact Below.refl _ _) | (with_reducible assumption) | ((with_reducible refine Below.alloc ?_ ?_ _); rotate_left; (· first | (simp; done) | (simp; omega) | omega)) | ((with_reducible refine Below.setCell ?_ ?_ _); rotate_left; (· first | (simp; done) | (simp; omega) | omega)) | (with_reducible apply Below.drew) | ((with_reducible apply below_step); (· with_reducible assumption); rotate_left; (· first | (simp; done) | (simp; omega) | omega))))⟩
                          case measure => simp [intOf]; omega
                      | false =>
                        by_cases hy : z < y
                        · as_aux_lemma =>
                            go_wp2_with fail
                            refine (HL.out _).mono ?_
                            rintro e w10 ⟨rfl, hb10⟩
                            obtain ⟨hc10, hf10⟩ := ifs_of hb10; have hs10 := hb10.size; (try simp at hs10)
                            go_upto_region 37 with fail
                            go_wp2
                            go_roundw
                            case rel =>
                              have za := HA.out
                              exact ⟨k + 1, true, by omega, by go_num, by first | rfl | (simp; done) | (simp; omega), (fun h => by cases h), by rw [T1.out, T2.out]; exact (by repeat (first | (with_reducible assumption) | ((with_reducible apply Blk.new_at); (first | (simp; done) | (simp; omega))) | (with_reducible apply Blk.drew) | (with_reducible refine Blk.alloc ?_ _) | (with_reducible apply blk_two) | ((with_reducible refine blk_far ?_ ?_ _); (· first | (simp; done) | (simp; omega) | omega)) | ((with_reducible apply blk_kept); (· with_reducible assumption)))), (by repeat (first | (with_reducible exact Below.refl _ _) | (with_reducible assumption) | ((with_reducible refine Below.alloc ?_ ?_ _); rotate_left; (· first | (simp; done) | (simp; omega) | omega)) | ((with_reducible refine Below.setCell ?_ ?_ _); rotate_left; (· first | (simp; done) | (simp; omega) | omega)) | (with_reducible apply Below.drew) | ((with_reducible apply below_step); (· with_reducible assumption); rotate_left; (· first | (simp; done) | (simp; omega) | omega))))⟩
                            case measure => simp [intOf]; omega
                        · as_aux_lemma =>
                            go_wp2_with fail
                            refine (HL.out _).mono ?_
                            rintro e w10 ⟨rfl, hb10⟩
                            obtain ⟨hc10, hf10⟩ := ifs_of hb10; have hs10 := hb10.size; (try simp at hs10)
                            go_upto_region 37 with fail
                            go_wp2
                            go_roundw
                            case rel =>
                              have za := HA.out
                              exact ⟨k + 1, false, by omega, by go_num, by first | rfl | (simp; done) | (simp; omega), (fun _ => HN2.out ⟨by first | rfl | trivial, by omega⟩), by rw [T1.out, T2.out]; exact (by repeat (first | (with_reducible assumption) | ((with_reducible apply Blk.new_at); (first | (simp; done) | (simp; omega))) | (with_reducible apply Blk.drew) | (with_reducible refine Blk.alloc ?_ _) | (with_reducible apply blk_two) | ((with_reducible refine blk_far ?_ ?_ _); (· first | (simp; done) | (simp; omega) | omega)) | ((with_reducible apply blk_kept); (· with_reducible assumption)))), (by repeat (first | (with_reducible exact Below.refl _ _) | (with_reducible assumption) | ((with_reducible refine Below.alloc ?_ ?_ _); rotate_left; (· first | (simp; done) | (simp; omega) | omega)) | ((with_reducible refine Below.setCell ?_ ?_ _); rotate_left; (· first | (simp; done) | (simp; omega) | omega)) | (with_reducible apply Below.drew) | ((with_reducible apply below_step); (· with_reducible assumption); rotate_left; (· first | (simp; done) | (simp; omega) | omega))))⟩
                            case measure => simp [intOf]; omega
                    · obtain rfl : k = 12 := by omega
                      have q1 := sumS_bd HQR.out 12 (by omega)
                      have q2 := sumS_bd (f := fun j => one (q j)) (M := 1) (fun j hj => one_range (HQR.out j hj)) 12 (by omega)
                      have HP : Hid (b = false → lo = sumS q 12 - sumS (fun j => lossHi F L S (q j)) 12 ∧ hi = sumS q 12 - sumS (fun j => lossLo F L S (q j)) 12) := fun hb => HPL.out (fun j hj => ⟨HCUT.out hb j hj, (LR.out j hj).2.1⟩)
                      obtain ⟨eb1, eb2⟩ := EB.out
                      obtain ⟨q11, q12⟩ := q1
                      obtain ⟨q21, q22⟩ := q2
                      obtain ⟨f0, f1, l0, l1, s0, s1⟩ := hls
                      clear EB HPL HCUT
                      generalize sumS q 12 = t at *
                      generalize sumS (fun j => one (q j)) 12 = m at *
                      generalize sumS (fun j => lossLo F L S (q j)) 12 = sl at *
                      generalize sumS (fun j => lossHi F L S (q j)) 12 = sh at *
                      have n1 := Int.mul_nonneg f0 q21
                      have n2 := Int.mul_nonneg l0 q11
                      have n3 := Int.mul_nonneg s0 u11
                      have m1 : F * m ≤ 1000 * 12 := Int.mul_le_mul f1 (by omega) q21 (by omega)
                      have m2 : L * t ≤ 1000 * 1200 := Int.mul_le_mul l1 (by omega) q11 (by omega)
                      have m3 : S * u ≤ 1000 * 120000 := Int.mul_le_mul s1 (by omega) u11 (by omega)
                      have hquo : (12 * u).tdiv 12 = u := by rw [Int.tdiv_eq_ediv_of_nonneg (by omega)]; omega
                      have hrem : (12 * u).tmod 12 = 0 := by rw [Int.tmod_eq_emod_of_nonneg (by omega)]; omega
                      have vB5 := (HB4.out.kept hbx).cell
                      cases b with
                      | true =>
                        as_aux_lemma =>
                          go_wp2_with fail
                          refine (shackle_any _ (hP.kept (by repeat (first | (with_reducible exact Below.refl _ _) | (with_reducible assumption) | ((with_reducible refine Below.alloc ?_ ?_ _); rotate_left; (· first | (simp; done) | (simp; omega) | omega)) | ((with_reducible refine Below.setCell ?_ ?_ _); rotate_left; (· first | (simp; done) | (simp; omega) | omega)) | (with_reducible apply Below.drew) | ((with_reducible apply below_step); (· with_reducible assumption); rotate_left; (· first | (simp; done) | (simp; omega) | omega)))))).mono ?_
                          rintro e w12 ⟨rfl, hb12⟩
                          go_wp2
                          go_ret
                          exact ⟨by first | rfl | (simp; done), (by repeat (first | (with_reducible exact Below.refl _ _) | (with_reducible assumption) | ((with_reducible refine Below.alloc ?_ ?_ _); rotate_left; (· first | (simp; done) | (simp; omega) | omega)) | ((with_reducible refine Below.setCell ?_ ?_ _); rotate_left; (· first | (simp; done) | (simp; omega) | omega)) | (with_reducible apply Below.drew) | ((with_reducible apply below_step); (· with_reducible assumption); rotate_left; (· first | (simp; done) | (simp; omega) | omega))))⟩
                      | false =>
                        as_aux_lemma =>
                          obtain ⟨rfl, rfl⟩ := HP.out rfl
                          go_wp2_with fail
                          refine (shackle_any _ (hP.kept (by repeat (first | (with_reducible exact Below.refl _ _) | (with_reducible assumption) | ((with_reducible refine Below.alloc ?_ ?_ _); rotate_left; (· first | (simp; done) | (simp; omega) | omega)) | ((with_reducible refine Below.setCell ?_ ?_ _); rotate_left; (· first | (simp; done) | (simp; omega) | omega)) | (with_reducible apply Below.drew) | ((with_reducible apply below_step); (· with_reducible assumption); rotate_left; (· first | (simp; done) | (simp; omega) | omega)))))).mono ?_
                          rintro e w12 ⟨rfl, hb12⟩
                          go_wp2
                          go_ret
                          exact ⟨by first | rfl | (simp; done), (by repeat (first | (with_reducible exact Below.refl _ _) | (with_reducible assumption) | ((with_reducible refine Below.alloc ?_ ?_ _); rotate_left; (· first | (simp; done) | (simp; omega) | omega)) | ((with_reducible refine Below.setCell ?_ ?_ _); rotate_left; (· first | (simp; done) | (simp; omega) | omega)) | (with_reducible apply Below.drew) | ((with_reducible apply below_step); (· with_reducible assumption); rotate_left; (· first | (simp; done) | (simp; omega) | omega))))⟩
    · have h2' : (z2 != 0) = true := by simpa using h2
      clear h2
      go_wp2_with fail
      refine (shackle_any _ (hP.kept (by repeat (first | (with_reducible exact Below.refl _ _) | (with_reducible assumption) | ((with_reducible refine Below.alloc ?_ ?_ _); rotate_left; (· first | (simp; done) | (simp; omega) | omega)) | ((with_reducible refine Below.setCell ?_ ?_ _); rotate_left; (· first | (simp; done) | (simp; omega) | omega)) | (with_reducible apply Below.drew) | ((with_reducible apply below_step); (· with_reducible assumption); rotate_left; (· first | (simp; done) | (simp; omega) | omega)))))).mono ?_
      rintro e w3 ⟨rfl, hb3⟩
      go_wp2
      go_ret
      exact ⟨rfl, (by repeat (first | (with_reducible exact Below.refl _ _) | (with_reducible assumption) | ((with_reducible refine Below.alloc ?_ ?_ _); rotate_left; (· first | (simp; done) | (simp; omega) | omega)) | ((with_reducible refine Below.setCell ?_ ?_ _); rotate_left; (· first | (simp; done) | (simp; omega) | omega)) | (with_reducible apply Below.drew) | ((with_reducible apply below_step); (· with_reducible assumption); rotate_left; (· first | (simp; done) | (simp; omega) | omega))))⟩
  · have h1' : (z1 != 0) = true := by simpa using h1
    clear h1
    go_wp2_with fail
    refine (shackle_any _ (hP.kept (by repeat (first | (with_reducible exact Below.refl _ _) | (with_reducible assumption) | ((with_reducible refine Below.alloc ?_ ?_ _); rotate_left; (· first | (simp; done) | (simp; omega) | omega)) | ((with_reducible refine Below.setCell ?_ ?_ _); rotate_left; (· first | (simp; done) | (simp; omega) | omega)) | (with_reducible apply Below.drew) | ((with_reducible apply below_step); (· with_reducible assumption); rotate_left; (· first | (simp; done) | (simp; omega) | omega)))))).mono ?_
    rintro e w3 ⟨rfl, hb3⟩
    go_wp2
    go_ret
    exact ⟨rfl, (by repeat (first | (with_reducible exact Below.refl _ _) | (with_reducible assumption) | ((with_reducible refine Below.alloc ?_ ?_ _); rotate_left; (· first | (simp; done) | (simp; omega) | omega)) | ((with_reducible refine Below.setCell ?_ ?_ _); rotate_left; (· first | (simp; done) | (simp; omega) | omega)) | (with_reducible apply Below.drew) | ((with_reducible apply below_step); (· with_reducible assumption); rotate_left; (· first | (simp; done) | (simp; omega) | omega))))⟩
end Go.Proofs.YtjakigncloleaaaDoor
