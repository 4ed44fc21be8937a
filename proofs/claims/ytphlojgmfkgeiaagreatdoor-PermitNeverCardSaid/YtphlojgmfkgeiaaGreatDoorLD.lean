/- The law's side: acts that are short; acts copied. -/
import Derived.Test.YtphlojgmfkgeiaaGreatDoorXF
import Derived.Test.YtphlojgmfkgeiaaGreatDoorKo
namespace Go.Proofs.YtphlojgmfkgeiaaGreatDoor
open Go.RowKit Go.Sort Go.Shelf
set_option linter.unusedSimpArgs false
set_option linter.unusedVariables false
attribute [local go_sem] cell_if frozen_if grow_cell
theorem elemAc : Elem Tryz.prog 109 170 3 48 := elem_of Tryz.underlying109 (z := .agg #[.string ⟨#[]⟩, .string ⟨#[]⟩, .string ⟨#[]⟩]) (by kernel_rfl) rfl (by decide)
def pA (x : Ac) : Bool := decide (x.k.size ≤ 40) && decide (x.n.size ≤ 40) && decide (x.s.size ≤ 40)
def szA (n : Nat) : Bool := decide (n ≤ 12) || decide (n = 65)
def shortA (l : List Ac) : Bool := l.all pA && szA l.length
theorem acs_take (l : List Ac) (k : Nat) (h : k < l.length) : acs (l.take (k + 1)) = acs (l.take k) ++ [.string l[k].k, .string l[k].n, .string l[k].s] := by
  unfold acs; rw [List.take_succ_eq_append_getElem h, List.flatMap_append]; rfl
set_option maxRecDepth 100000 in
set_option maxHeartbeats 2000000 in
theorem ShortActs_any (B : Nat) (A : Option Addr) (n c : Nat) (l : List Ac) (w : World) (hr : Reads w B 3 A n (acs l)) (hn : n ≤ maxLen) :
    Calls Tryz.prog 67 #[.slice A n c] w fun e w' => e = .returned (.bool (shortA l)) ∧ w = w' := by
  obtain ⟨hll, hat⟩ := ac_at hr
  unfold maxLen at hn
  have HAT := Lib.hid hat
  have HLL := Lib.hid hll
  have HV : Hid (shortA l = (l.all pA && szA n)) := by show _ = _; rw [shortA, hll]
  rw [HV.out]
  clear hr hll hat HV
  go_enter Tryz.func67, Tryz.ntmps67
  go_wp2_with fail
  go_loop [3] (fun i => ∃ k : Nat, k ≤ n ∧ i = .int .i64 k ∧ Hid ((l.take k).all pA = true)) (fun i => n - (intOf i).toNat)
  case atStart => exact ⟨0, by omega, rfl, Lib.hid rfl⟩
  case round =>
    obtain ⟨k, hk, rfl, hq⟩ := hrel
    by_cases hlt : k < n
    · have hkl : k < l.length := by rw [HLL.out]; exact hlt
      obtain ⟨b, o, rfl, hbb, z0, z1, z2⟩ := HAT.out k hkl
      have HT := Lib.hid (all_take pA l k hkl)
      have HN := Lib.hid (all_no (p := pA) hkl)
      generalize l[k] = x at *
      obtain ⟨xk, xn, xs⟩ := x
      dsimp only at z0 z1 z2
      by_cases hz1 : xk.size ≤ 40
      case neg =>
        have hz : (40 : Int) < (xk.size : Int) := by omega
        have HR : Hid ((l.all pA && szA n) = false) := by show _ = _; rw [HN.out (by simp [pA]; omega)]; rfl
        clear hz1
        go_wp2_with fail
        go_ret
        exact ⟨by rw [HR.out]; rfl, rfl⟩
      by_cases hz2 : xn.size ≤ 40
      case neg =>
        have hz : (40 : Int) < (xn.size : Int) := by omega
        have hz' : ¬ (40 : Int) < (xk.size : Int) := by omega
        have HR : Hid ((l.all pA && szA n) = false) := by show _ = _; rw [HN.out (by simp [pA]; omega)]; rfl
        clear hz1 hz2
        go_wp2_with fail
        go_ret
        exact ⟨by rw [HR.out]; rfl, rfl⟩
      by_cases hz3 : xs.size ≤ 40
      case neg =>
        have hz : (40 : Int) < (xs.size : Int) := by omega
        have hz' : ¬ (40 : Int) < (xk.size : Int) := by omega
        have hz'' : ¬ (40 : Int) < (xn.size : Int) := by omega
        have HR : Hid ((l.all pA && szA n) = false) := by show _ = _; rw [HN.out (by simp [pA]; omega)]; rfl
        clear hz1 hz2 hz3
        go_wp2_with fail
        go_ret
        exact ⟨by rw [HR.out]; rfl, rfl⟩
      have hz : ¬ (40 : Int) < (xs.size : Int) := by omega
      have hz' : ¬ (40 : Int) < (xk.size : Int) := by omega
      have hz'' : ¬ (40 : Int) < (xn.size : Int) := by omega
      have HP : Hid (pA ⟨xk, xn, xs⟩ = true) := by show _ = _; simp [pA]; omega
      clear hz1 hz2 hz3
      go_wp2_with fail
      go_round
      case rel => exact ⟨k + 1, by omega, by go_num, Lib.hid (by rw [HT.out, hq.out, HP.out]; rfl)⟩
      case measure => simp [intOf]; omega
    · obtain rfl : k = n := by omega
      have HR : Hid ((l.all pA && szA k) = szA k) := by
        show _ = _
        have := hq.out
        rw [List.take_of_length_le (by rw [HLL.out]; exact Nat.le_refl _)] at this
        rw [this]; rfl
      clear hq hlt hk
      by_cases h12 : (k : Int) ≤ 12
      · have HZ : Hid (szA k = true) := by show _ = _; unfold szA; rw [decide_eq_true (show k ≤ 12 by omega)]; rfl
        go_wp2_with fail
        go_ret
        exact ⟨by rw [HR.out, HZ.out]; rfl, rfl⟩
      by_cases h65 : k = 65
      · subst h65
        have HZ : Hid (szA 65 = true) := by show _ = _; decide
        go_wp2_with fail
        go_ret
        exact ⟨by rw [HR.out, HZ.out]; rfl, rfl⟩
      · have HZ : Hid (szA k = false) := by show _ = _; unfold szA; rw [decide_eq_false (show ¬ k ≤ 12 by omega), decide_eq_false h65]; rfl
        have hne : ((k : Int) == 65) = false := by simp; omega
        go_wp2_with fail
        go_ret
        exact ⟨by rw [HR.out, HZ.out]; rfl, rfl⟩
/-- Acts of the call's own. -/
def ActsRes (w : World) (n : Nat) (l : List Ac) (e : Ending) (w' : World) : Prop := ∃ A cap, e = .returned (.slice A n cap) ∧ Reads w' w'.heap.size 3 A n (acs l) ∧ Below w.heap.size w w'
set_option maxRecDepth 100000 in
set_option maxHeartbeats 2000000 in
theorem acts_any (B : Nat) (A : Option Addr) (n c : Nat) (l : List Ac) (w : World) (hr : Reads w B 3 A n (acs l)) (hB : B ≤ w.heap.size) (hn : n ≤ 1000) :
    Calls Tryz.prog 69 #[.slice A n c] w (ActsRes w n l) := by
  obtain ⟨hll, hat⟩ := ac_at hr
  have HAT := Lib.hid hat
  have HLL := Lib.hid hll
  clear hr hll hat
  go_enter Tryz.func69, Tryz.ntmps69
  go_wp2_with fail
  go_loopw [3, 8] (fun v i wr => ∃ k : Nat, k ≤ n ∧ i = .int .i64 k ∧ wr.ownsRow w.heap.size 170 3 v k (acs (l.take k)) ∧ Below w.heap.size w wr) (fun _ i _ => n - (intOf i).toNat)
  case atStart => exact ⟨0, Nat.zero_le _, rfl, World.ownsRow_nil _ _ _ _, Below.refl _ _⟩
  case round =>
    rename Value => v
    obtain ⟨k, hk, rfl, hown, hb⟩ := hrel
    have hsb := hb.size
    have HO := Lib.hid hown
    clear hown
    by_cases hlt : k < n
    · have hkl : k < l.length := by rw [HLL.out]; exact hlt
      obtain ⟨b, o, eA, hbb, z0, z1, z2⟩ := HAT.out k hkl
      have kb : ∀ i, wr.cell? ⟨b, i, none⟩ = w.cell? ⟨b, i, none⟩ := fun i => hb.cell (p := ⟨b, i, none⟩) (by simp; omega)
      rw [← kb] at z0 z1 z2
      have hbw : b < wr.heap.size := by omega
      clear kb
      subst eA
      have HS := Lib.hid (acs_take l k hkl)
      generalize l[k] = x at *
      obtain ⟨xk, xn, xs⟩ := x
      dsimp only at z0 z1 z2 HS
      have HO2 := Lib.hid (own_kept HO.out (bl_ : Below wr.heap.size wr (wr.alloc (.cells #[.string xk, .string xn, .string xs] 116))))
      go_wp2_with (at_builtin; refine wpList_app 109 170 3 48 elemAc rfl (.tmp 12) (.tmp 14) rfl w.heap.size _ k (acs (l.take k)) rfl HO2.out 1 (by show Value.slice (some ⟨wr.heap.size + 1, 0, none⟩) 1 1 = _; simp) rfl (by intro u hu; simp at hu; rcases hu with rfl | rfl | rfl <;> rfl) (by decide) ?h3 ?h4 ?h5 ?_)
      case h3 => unfold maxLen; omega
      case h4 => omega
      case h5 => simp; omega
      intro g' cap' w' hown' hb' _ hs'
      rw [← HS.out] at hown'
      have HO3 := Lib.hid hown'
      have hbl := Lib.hid ((hb.alloc hsb (.cells #[.string xk, .string xn, .string xs] 116)).trans hb')
      clear hown' hb'
      go_wp2
      go_roundw
      case rel => exact ⟨k + 1, by omega, by go_num, HO3.out, hbl.out⟩
      case measure => simp [intOf]; omega
    · obtain rfl : k = n := by omega
      obtain ⟨A', cap', rfl, _, _, hrd⟩ := own_form HO.out
      have HD := Lib.hid hrd
      clear hrd
      go_wp2
      go_ret
      refine ⟨A', cap', rfl, ?_, hb⟩
      have := HD.out
      rwa [List.take_of_length_le (by rw [HLL.out]; exact Nat.le_refl _)] at this
end Go.Proofs.YtphlojgmfkgeiaaGreatDoor
