/- Contracts of harmonic: lists within a bound; patterns; numbers. -/
import Derived.Test.YtjakigncloleaaaDoorH2
import Derived.Test.YtjakigncloleaaaDoorPh10
namespace Go.Proofs.YtjakigncloleaaaDoor
open Go.RowKit Go.Sort
set_option linter.unusedSimpArgs false
set_option linter.unusedVariables false
attribute [local go_sem] cell_if frozen_if grow_cell
theorem hclos_any (m : Int) (g : Nat) (z : Int) (w : World) (hm0 : 0 ≤ m) (hm1 : m ≤ 2000000) (hg : Blk w g 3 #[.int .i64 m]) : Calls Tryd.prog 77 #[.int .i64 z, .pointer (some ⟨g, 0, none⟩)] w fun e w' => e = .returned (.int .i64 (ckR z (-m) m)) ∧ w = w' := by
  have hc := hg.cell 0
  simp at hc
  clear hg
  go_enter Tryd.func77, Tryd.ntmps77
  go_wp2_with (go_at_call 69; refine (hwithin_any _ _ _ _).mono ?_; rintro e w1 ⟨rfl, rfl⟩)
  go_ret
  exact ⟨rfl, rfl⟩
theorem fclos_any (z : Int) (w : World) : Calls Tryd.prog 49 #[.int .i64 z] w fun e w' => e = .returned (.int .i64 (ckR z 0 1000)) ∧ w = w' := by
  go_enter Tryd.func49, Tryd.ntmps49
  go_wp2_with (go_at_call 50; refine (fwithin_any _ _ _ _).mono ?_; rintro e w1 ⟨rfl, rfl⟩)
  go_ret
  exact ⟨rfl, rfl⟩
set_option maxHeartbeats 400000 in
theorem hmapped_any (B : Nat) (A : Option Addr) (n c : Nat) (zs : List Int) (w : World) (m : Int) (g : Nat) (hm0 : 0 ≤ m) (hm1 : m ≤ 2000000) (hgb : g < w.heap.size) (hg : Blk w g 3 #[.int .i64 m]) (hr : Reads w B 1 A n (zs.map (.int .i64))) (hB : B ≤ w.heap.size) (hn : n ≤ 1000) :
    Calls Tryd.prog 76 #[.slice A n c, .func (.func 77) #[] #[.pointer (some ⟨g, 0, none⟩)]] w (Errs w n (zs.map fun z => ckR z (-m) m)) := by
  have hl : zs.length = n := by simpa using hr.1
  have Hl := Lib.hid hl; clear hl
  have HR := Lib.hid hr; clear hr
  go_enter Tryd.func76, Tryd.ntmps76
  go_wp2
  go_loopw [5, 10] (fun v i wr => ∃ k : Nat, k ≤ n ∧ i = .int .i64 k ∧ wr.ownsRow w.heap.size 33 1 v k ((zs.map fun z => Value.int .i64 (ckR z (-m) m)).take k) ∧ Below w.heap.size w wr) (fun _ i _ => n - (intOf i).toNat)
  case atStart => exact ⟨0, Nat.zero_le _, rfl, World.ownsRow_nil _ _ _ _, Below.refl _ _⟩
  case round =>
    obtain ⟨k, hk, rfl, hown, hb⟩ := hrel
    have hsb := hb.size
    have HO := Lib.hid hown
    clear hown
    by_cases hlt : k < n
    · obtain ⟨b, o, u, rfl, _, hu, hc⟩ := (HR.out.below (hb.mono hB)).at_ hlt
      have hkl : k < zs.length := by rw [Hl.out]; exact hlt
      obtain rfl : u = .int .i64 zs[k] := by simpa [hkl] using hu.symm
      have Hd := Lib.hid (map_snoc (fun z => Value.int .i64 (ckR z (-m) m)) zs k hkl)
      clear hu
      generalize zs[k] = z at *
      go_wp2_with (first | (go_at_call 77; refine (hclos_any m g _ _ hm0 hm1 (hg.below hb hgb)).mono ?_; rintro e w1 ⟨rfl, rfl⟩) | (at_builtin; refine wpList_app 102 33 1 8 elemErrno rfl (.tmp 14) (.tmp 18) rfl w.heap.size _ k _ rfl HO.out 1 rfl rfl ?h1 (by decide) ?h3 (by omega) hsb ?_))
      case h1 => rfl
      case h3 => unfold maxLen; omega
      intro g' cap' w' hown' hb' _ hs'
      go_wp2
      go_roundw
      case rel => exact ⟨k + 1, by omega, by go_num, by rw [Hd.out]; exact hown', hb.trans hb'⟩
      case measure => simp [intOf]; omega
    · obtain rfl : k = n := by omega
      obtain ⟨A', cap', rfl, _, _, hrd⟩ := own_form HO.out
      have HD := Lib.hid hrd
      clear hrd
      go_wp2
      go_ret
      refine ⟨A', cap', rfl, ?_, hb⟩
      have := HD.out
      rw [List.take_of_length_le (by rw [List.length_map, Hl.out]; exact Nat.le_refl _)] at this
      rw [List.map_map]
      exact this
set_option maxHeartbeats 400000 in
theorem fmapped_any (B : Nat) (A : Option Addr) (n c : Nat) (zs : List Int) (w : World)  (hr : Reads w B 1 A n (zs.map (.int .i64))) (hB : B ≤ w.heap.size) (hn : n ≤ 1000) :
    Calls Tryd.prog 48 #[.slice A n c, .func (.func 49) #[] #[]] w (Errs w n (zs.map fun z => ckR z 0 1000)) := by
  have hl : zs.length = n := by simpa using hr.1
  have Hl := Lib.hid hl; clear hl
  have HR := Lib.hid hr; clear hr
  go_enter Tryd.func48, Tryd.ntmps48
  go_wp2
  go_loopw [5, 10] (fun v i wr => ∃ k : Nat, k ≤ n ∧ i = .int .i64 k ∧ wr.ownsRow w.heap.size 33 1 v k ((zs.map fun z => Value.int .i64 (ckR z 0 1000)).take k) ∧ Below w.heap.size w wr) (fun _ i _ => n - (intOf i).toNat)
  case atStart => exact ⟨0, Nat.zero_le _, rfl, World.ownsRow_nil _ _ _ _, Below.refl _ _⟩
  case round =>
    obtain ⟨k, hk, rfl, hown, hb⟩ := hrel
    have hsb := hb.size
    have HO := Lib.hid hown
    clear hown
    by_cases hlt : k < n
    · obtain ⟨b, o, u, rfl, _, hu, hc⟩ := (HR.out.below (hb.mono hB)).at_ hlt
      have hkl : k < zs.length := by rw [Hl.out]; exact hlt
      obtain rfl : u = .int .i64 zs[k] := by simpa [hkl] using hu.symm
      have Hd := Lib.hid (map_snoc (fun z => Value.int .i64 (ckR z 0 1000)) zs k hkl)
      clear hu
      generalize zs[k] = z at *
      go_wp2_with (first | (go_at_call 49; refine (fclos_any _ _).mono ?_; rintro e w1 ⟨rfl, rfl⟩) | (at_builtin; refine wpList_app 102 33 1 8 elemErrno rfl (.tmp 14) (.tmp 18) rfl w.heap.size _ k _ rfl HO.out 1 rfl rfl ?h1 (by decide) ?h3 (by omega) hsb ?_))
      case h1 => rfl
      case h3 => unfold maxLen; omega
      intro g' cap' w' hown' hb' _ hs'
      go_wp2
      go_roundw
      case rel => exact ⟨k + 1, by omega, by go_num, by rw [Hd.out]; exact hown', hb.trans hb'⟩
      case measure => simp [intOf]; omega
    · obtain rfl : k = n := by omega
      obtain ⟨A', cap', rfl, _, _, hrd⟩ := own_form HO.out
      have HD := Lib.hid hrd
      clear hrd
      go_wp2
      go_ret
      refine ⟨A', cap', rfl, ?_, hb⟩
      have := HD.out
      rw [List.take_of_length_le (by rw [List.length_map, Hl.out]; exact Nat.le_refl _)] at this
      rw [List.map_map]
      exact this
theorem firstE_zero {zs : List Int} {f : Int → Int} (h : ∀ z ∈ zs, f z = 0) : firstE (zs.map f) = 0 := by
  unfold firstE
  rw [List.find?_eq_none.2 (fun x hx => by
    obtain ⟨z, hz, rfl⟩ := List.mem_map.1 hx
    simp [h z hz])]
  rfl
theorem checkAll_any (m : Int) (B : Nat) (A : Option Addr) (n c : Nat) (zs : List Int) (w : World) (hm0 : 0 ≤ m) (hm1 : m ≤ 2000000) (hr : Reads w B 1 A n (zs.map (.int .i64))) (hB : B ≤ w.heap.size) (hn : n ≤ 1000) (hz : ∀ z ∈ zs, -m ≤ z ∧ z ≤ m) :
    Calls Tryd.prog 66 #[.slice A n c, .int .i64 m] w fun e w' => e = .returned (.int .i64 0) ∧ Below w.heap.size w w' := by
  have HZ : Hid (firstE (zs.map fun z => ckR z (-m) m) = 0) := firstE_zero (fun z h => ckR_yes (hz z h))
  clear hz
  go_enter Tryd.func66, Tryd.ntmps66
  go_wp2_with fail
  refine (hmapped_any B A n c zs _ m w.heap.size hm0 hm1 (by simp) (Blk.new _ _ _) (hr.below ((Below.refl _ _).alloc hB _)) (by simp; omega) hn).mono ?_
  rintro e w2 ⟨A2, cap2, rfl, hr2, hb2⟩
  have hs2 := hb2.size
  go_wp2_with fail
  refine (hfirst_any _ _ n cap2 _ _ hr2 (by unfold maxLen; omega)).mono ?_
  rw [HZ.out]
  rintro e w4 ⟨rfl, rfl⟩
  go_wp2
  go_ret
  exact ⟨rfl, (by repeat (first | (with_reducible exact Below.refl _ _) | (with_reducible assumption) | ((with_reducible refine Below.alloc ?_ ?_ _); rotate_left; (· first | (simp; done) | (simp; omega) | omega)) | ((with_reducible refine Below.setCell ?_ ?_ _); rotate_left; (· first | (simp; done) | (simp; omega) | omega)) | (with_reducible apply Below.drew) | ((with_reducible apply below_step); (· with_reducible assumption); rotate_left; (· first | (simp; done) | (simp; omega) | omega))))⟩
theorem checkPattern_any (p : Nat → Int) (w : World) (hp : ∀ j, j < 12 → -100 ≤ p j ∧ p j ≤ 100) :
    Calls Tryd.prog 41 #[.agg #[.int .i64 (p 0), .int .i64 (p 1), .int .i64 (p 2), .int .i64 (p 3), .int .i64 (p 4), .int .i64 (p 5), .int .i64 (p 6), .int .i64 (p 7), .int .i64 (p 8), .int .i64 (p 9), .int .i64 (p 10), .int .i64 (p 11)]] w fun e w' => e = .returned (.int .i64 0) ∧ Below w.heap.size w w' := by
  go_enter Tryd.func41, Tryd.ntmps41
  go_wp2_with fail
  refine (checkAll_any 100 (w.heap.size + 1) _ 12 12 [p 0, p 1, p 2, p 3, p 4, p 5, p 6, p 7, p 8, p 9, p 10, p 11] _ (by omega) (by omega) (Reads.blk (cs := #[.int .i64 (p 0), .int .i64 (p 1), .int .i64 (p 2), .int .i64 (p 3), .int .i64 (p 4), .int .i64 (p 5), .int .i64 (p 6), .int .i64 (p 7), .int .i64 (p 8), .int .i64 (p 9), .int .i64 (p 10), .int .i64 (p 11)]) (Blk.new _ _ _) rfl) (by simp) (by omega) ?hz).mono ?_
  rotate_left
  rintro e w1 ⟨rfl, hb1⟩
  go_wp2
  go_ret
  exact ⟨rfl, (by repeat (first | (with_reducible exact Below.refl _ _) | (with_reducible assumption) | ((with_reducible refine Below.alloc ?_ ?_ _); rotate_left; (· first | (simp; done) | (simp; omega) | omega)) | ((with_reducible refine Below.setCell ?_ ?_ _); rotate_left; (· first | (simp; done) | (simp; omega) | omega)) | (with_reducible apply Below.drew) | ((with_reducible apply below_step); (· with_reducible assumption); rotate_left; (· first | (simp; done) | (simp; omega) | omega))))⟩
  case hz =>
    intro z hz
    simp at hz
    rcases hz with rfl | rfl | rfl | rfl | rfl | rfl | rfl | rfl | rfl | rfl | rfl | rfl <;> exact hp _ (by omega)
def CyIn (m : Int) (x : Cy) : Prop := (-m ≤ x.a ∧ x.a ≤ m) ∧ (-m ≤ x.b ∧ x.b ≤ m) ∧ (-m ≤ x.c ∧ x.c ≤ m) ∧ (-m ≤ x.d ∧ x.d ≤ m)
theorem ccheck_any (x : Cy) (w : World) (hx : CyIn 1048576 x) :
    Calls Tryd.prog 52 #[.agg #[.int .i64 x.a, .int .i64 x.b, .int .i64 x.c, .int .i64 x.d]] w fun e w' => e = .returned (.int .i64 0) ∧ Below w.heap.size w w' := by
  have HX := Lib.hid hx
  clear hx
  go_enter Tryd.func52, Tryd.ntmps52
  go_wp2_with fail
  refine (checkAll_any 1048576 (w.heap.size + 1 + 1) _ 4 4 [x.a, x.b, x.c, x.d] _ (by omega) (by omega) (Reads.blk (cs := #[.int .i64 x.a, .int .i64 x.b, .int .i64 x.c, .int .i64 x.d]) (Blk.new_at _ _ (by simp)) rfl) (by simp) (by omega) ?hz).mono ?_
  rotate_left
  rintro e w1 ⟨rfl, hb1⟩
  go_wp2
  go_ret
  exact ⟨rfl, (by repeat (first | (with_reducible exact Below.refl _ _) | (with_reducible assumption) | ((with_reducible refine Below.alloc ?_ ?_ _); rotate_left; (· first | (simp; done) | (simp; omega) | omega)) | ((with_reducible refine Below.setCell ?_ ?_ _); rotate_left; (· first | (simp; done) | (simp; omega) | omega)) | (with_reducible apply Below.drew) | ((with_reducible apply below_step); (· with_reducible assumption); rotate_left; (· first | (simp; done) | (simp; omega) | omega))))⟩
  case hz =>
    intro z hz
    simp at hz
    obtain ⟨h1, h2, h3, h4⟩ := HX.out
    rcases hz with rfl | rfl | rfl | rfl <;> assumption
set_option maxHeartbeats 400000 in
theorem Strength_any (x : Cy) (w : World) (hx : CyIn 1048576 x) :
    Calls Tryd.prog 21 #[.agg #[.int .i64 x.a, .int .i64 x.b, .int .i64 x.c, .int .i64 x.d]] w fun e w' => e = .returned (.tuple #[.agg #[.int .i64 (stA x), .int .i64 (stB x)], .int .i64 0]) ∧ Below w.heap.size w w' := by
  go_enter Tryd.func21, Tryd.ntmps21
  go_wp2_with (first | (go_at_call 52; refine (ccheck_any _ _ hx).mono ?_; rintro e w1 ⟨rfl, hb1⟩; obtain ⟨hc1, hf1⟩ := ifs_of hb1; have hs1 := hb1.size; (try simp at hs1)) | (go_at_call 53; refine (strength_any _ _).mono ?_; rintro e w2 ⟨rfl, hb2⟩; obtain ⟨hc2, hf2⟩ := ifs_of hb2; have hs2 := hb2.size; (try simp at hs2)))
  exact bodyPost_ret (by first | (simp [results, Tryd.results21, go_sem, *]; done) | (simp [results, Tryd.results21, go_sem, *, ↓IntWalk.iteOmega]; done) | (simp [results, Tryd.results21, go_sem, *]; (repeat' apply And.intro) <;> rfl) | (simp [results, Tryd.results21, go_sem, *, ↓IntWalk.iteOmega]; (repeat' apply And.intro) <;> rfl)) rfl ⟨rfl, (by repeat (first | (with_reducible exact Below.refl _ _) | (with_reducible assumption) | ((with_reducible refine Below.alloc ?_ ?_ _); rotate_left; (· first | (simp; done) | (simp; omega) | omega)) | ((with_reducible refine Below.setCell ?_ ?_ _); rotate_left; (· first | (simp; done) | (simp; omega) | omega)) | (with_reducible apply Below.drew) | ((with_reducible apply below_step); (· with_reducible assumption); rotate_left; (· first | (simp; done) | (simp; omega) | omega))))⟩
end Go.Proofs.YtjakigncloleaaaDoor
