/- Joined texts: VI VH VJ VK. -/
import Derived.Test.YtphlojgmfkgeiaaGreatDoorKm
import Derived.Test.YtphlojgmfkgeiaaGreatDoorKl
import Derived.Test.YtphlojgmfkgeiaaGreatDoorKj
import Derived.Test.YtphlojgmfkgeiaaGreatDoorKS
/- The law's locks of the switches of an example. -/
namespace Go.Proofs.YtphlojgmfkgeiaaGreatDoor
open Go.RowKit Go.Sort Go.Shelf
set_option linter.unusedSimpArgs false
set_option linter.unusedVariables false
attribute [local go_sem] cell_if frozen_if grow_cell
def lkW (y : Yd) (nm : ByteArray) : List UInt8 := 32 :: (whyW y nm).data.toList
def bie : List ByteArray := [⟨#[98]⟩, ⟨#[105]⟩, ⟨#[101]⟩]
def locksL (y : Yd) : List UInt8 := bie.flatMap (lkW y)
theorem nmL_size (n : Nat) : (nmL n).size ≤ 6 := by
  unfold nmL
  split <;> decide
theorem whyW_size (y : Yd) (nm : ByteArray) : (whyW y nm).size ≤ 6 := by
  unfold whyW
  split
  · exact nmL_size _
  · decide
theorem fm_lenV {α : Type} {f : α → List UInt8} {m : Nat} : ∀ {l : List α}, (∀ x ∈ l, (f x).length ≤ m) → (l.flatMap f).length ≤ l.length * m
  | [], _ => by simp
  | x :: r, h => by
    have := fm_lenV (f := f) (m := m) (l := r) (fun y hy => h y (List.mem_cons_of_mem _ hy))
    have := h x List.mem_cons_self
    rw [List.flatMap_cons, List.length_append, List.length_cons, Nat.succ_mul]
    omega
theorem OwRow.kept {T0 T1 T2 : TypeId} {base : Nat} {y : Yd} {A0 A1 A2 : Option Addr} {c0 c1 c2 : Nat} {W W' : World} (h : OwRow T0 T1 T2 base y A0 A1 A2 c0 c1 c2 W) (hb : Below W.heap.size W W') : OwRow T0 T1 T2 base y A0 A1 A2 c0 c1 c2 W' :=
  ⟨own_kept h.r0 hb, own_kept h.r1 hb, own_kept h.r2 hb⟩
set_option maxRecDepth 100000 in
set_option maxHeartbeats 2000000 in
theorem lawlocks_any (B : Nat) (A0 A1 A2 : Option Addr) (n0 n1 n2 c0 c1 c2 : Nat) (y : Yd) (w : World) (hY : YdAt w B A0 A1 A2 n0 n1 n2 y) (hB : B ≤ w.heap.size) (hT : Tabs w) (hF : Fits y) (hE : ∀ nm ∈ bie, findE y nm = 0) : Calls Tryz.prog 80 #[.agg #[.slice A0 n0 c0, .slice A1 n1 c1, .slice A2 n2 c2]] w fun e w' => e = .returned (.string ⟨(locksL y).toArray⟩) ∧ Below w.heap.size w w' := by
  have hl0 := (sec_at hY.hs).1
  have hl1 := (sw_at hY.hw).1
  have hl2 := (pm_at hY.hp).1
  have hF0 := hF.s9
  have hF1 := hF.w9
  have hF2 := hF.p9
  have HTd := Lib.hid (fun W (hW : Below w.heap.size w W) => told_any B A0 A1 A2 n0 n1 n2 c0 c1 c2 y W (hY.below (hW.mono hB)) (by have := hW.size; omega) (by omega) (by omega) (by omega))
  have HOw := Lib.hid (fun W A0 A1 A2 c0 c1 c2 T0 T1 T2 base (h : OwRow T0 T1 T2 base y A0 A1 A2 c0 c1 c2 W) => own_any W.heap.size A0 A1 A2 y.s.length y.w.length y.p.length c0 c1 c2 y W h.yd (Nat.le_refl _) (by omega) (by omega) (by omega))
  have HWy := Lib.hid (fun W (hW : Below w.heap.size w W) A0 A1 A2 c0 c1 c2 T0 T1 T2 base (h : OwRow T0 T1 T2 base y A0 A1 A2 c0 c1 c2 W) nm => Why_any W.heap.size A0 A1 A2 y.s.length y.w.length y.p.length c0 c1 c2 y W h.yd (Nat.le_refl _) (hT.kept hW) hF nm)
  have HEE := Lib.hid hE
  clear hY hT hF hE hl0 hl1 hl2 hF0 hF1 hF2
  go_enter Tryz.func80, Tryz.ntmps80
  go_wp2_with fail
  go_loopw [3, 10] (fun s i wr => ∃ k : Nat, k ≤ 3 ∧ i = .int .i64 k ∧ s = .string ⟨((bie.take k).flatMap (lkW y)).toArray⟩ ∧ Blk wr w.heap.size 41 #[.slice A0 n0 c0, .slice A1 n1 c1, .slice A2 n2 c2] ∧ Blk wr (w.heap.size + 1) 9 #[.string ⟨#[98]⟩, .string ⟨#[105]⟩, .string ⟨#[101]⟩] ∧ Below w.heap.size w wr) (fun _ i _ => 3 - (intOf i).toNat)
  case atStart => exact ⟨0, by omega, rfl, rfl, bk_, bk_, bl_⟩
  case round =>
    obtain ⟨k, hk, rfl, rfl, bY, bL, hb⟩ := hrel
    have hsr := hb.size
    have cY := bY.cell
    have lY := bY.lt
    have BY := Lib.hid bY
    have BL := Lib.hid bL
    by_cases hlt : k < 3
    · have hkl : k < bie.length := hlt
      have hz : wr.cell? ⟨w.heap.size + 1, k, none⟩ = some (.string bie[k]) := by
        rw [bL.cell]
        obtain rfl | rfl | rfl : k = 0 ∨ k = 1 ∨ k = 2 := by omega
        all_goals rfl
      have HS : Hid ((bie.take (k + 1)).flatMap (lkW y) = (bie.take k).flatMap (lkW y) ++ (32 :: (whyW y bie[k]).data.toList)) := by
        show _ = _
        rw [List.take_succ_eq_append_getElem hkl, List.flatMap_append]
        simp [lkW]
      have htl : ((bie.take k).flatMap (lkW y)).length ≤ 21 := by
        have h1 := fm_lenV (f := lkW y) (m := 7) (l := bie.take k) (fun x _ => by have := whyW_size y x; simp [lkW]; exact this)
        have h2 := List.length_take_le k bie
        omega
      have hvs := whyW_size y bie[k]
      have HE0 := Lib.hid (HEE.out bie[k] (List.getElem_mem hkl))
      clear bY bL
      generalize ((bie.take k).flatMap (lkW y)) = tx at *
      generalize bie[k] = nm at *
      have HWn := Lib.hid (fun W hW A0 A1 A2 c0 c1 c2 T0 T1 T2 base h => HWy.out W hW A0 A1 A2 c0 c1 c2 T0 T1 T2 base h nm)
      rw [HE0.out] at HWn
      generalize whyW y nm = v at *
      go_wp2_with fail
      refine (HTd.out _ bl_).mono ?_
      rintro e w1 ⟨D0, D1, D2, d0, d1, d2, rfl, hO1, hb1⟩
      have hs1 := hb1.size
      have HO1 := Lib.hid hO1
      clear hO1
      go_wp2_with fail
      refine (HOw.out _ _ _ _ _ _ _ _ _ _ _ HO1.out).mono ?_
      rintro e w2 ⟨E0, E1, E2, e0, e1, e2, rfl, hO2, hb2⟩
      have hs2 := hb2.size
      have HO2 := Lib.hid hO2
      clear hO2
      go_wp2_with fail
      refine (HWn.out _ bl_ _ _ _ _ _ _ _ _ _ _ HO2.out).mono ?_
      (rintro e w3 ⟨rfl, hb3⟩; have hs3 := hb3.size; (try simp at hs3))
      have hcat1 : ¬ (9223372036854775807 : Nat) < v.size + 1 := by omega
      have hcat2 : ¬ (9223372036854775807 : Nat) < tx.length + (v.size + 1) := by omega
      go_wp2_with fail
      go_roundw
      case rel => exact ⟨k + 1, by omega, by go_num, by rw [HS.out]; exact congrArg Value.string (by apply ByteArray.ext; simp), BY.out.kept bl_, BL.out.kept bl_, bl_⟩
      case measure => simp [intOf]; omega
    · obtain rfl : k = 3 := by omega
      go_wp2_with fail
      go_ret
      exact ⟨rfl, bl_⟩
end Go.Proofs.YtphlojgmfkgeiaaGreatDoor
/- The examples: what the program answers, by evaluation. -/
namespace Go.Proofs.YtphlojgmfkgeiaaGreatDoor
def yA : Yd := shownY true true false
def yB : Yd := shownY false true false
def yC : Yd := shownY false false true
def bK : ByteArray := ⟨#[107]⟩
def bP : ByteArray := ⟨#[112]⟩
def bM : ByteArray := ⟨#[109]⟩
def yG : Yd := grantY yC bK bP
def gSec : ByteArray := ⟨#[115, 101, 99, 117, 114, 101, 100]⟩
def gEn : ByteArray := ⟨#[101, 110, 101, 114, 103, 105, 122, 101, 100]⟩
theorem ev_yA : yardE yA = 0 := by decide +kernel
theorem ev_yB : yardE yB = 0 := by decide +kernel
theorem ev_yC : yardE yC = 0 := by decide +kernel
theorem ev_st : stUp yA.w 3 = 3 := by decide +kernel
theorem ev_isl : islsL yB = [[0], [1, 2]] := by decide +kernel
theorem ev_en : those yA.s.length (energB yA) = [0, 1, 2] := by decide +kernel
theorem ev_oE : orderE yA gSec bP = 0 := by decide +kernel
theorem ev_oL : orderL yA gSec bP = [⟨#[98]⟩, ⟨#[105]⟩, ⟨#[101]⟩] := by decide +kernel
theorem ev_re : reachL yA = [0, 1, 2, 3, 4, 5, 6] := by decide +kernel
theorem ev_le : leftL yC = [⟨#[101]⟩] := by decide +kernel
theorem ev_gr : grantE yC bK bP = 0 := by decide +kernel
theorem ev_yG : yardE yG = 0 := by decide +kernel
theorem ev_fA : ∀ nm ∈ bie, findE yA nm = 0 := by decide +kernel
theorem ev_fB : ∀ nm ∈ bie, findE yB nm = 0 := by decide +kernel
theorem ev_fG : ∀ nm ∈ bie, findE yG nm = 0 := by decide +kernel
theorem ev_lA : locksL yA = [32, 32, 108, 111, 97, 100, 32, 115, 104, 111, 114, 116] := by decide +kernel
theorem ev_lB : locksL yB = [32, 32, 32, 97, 112, 97, 114, 116] := by decide +kernel
theorem ev_lG : locksL yG = [32, 32, 112, 101, 114, 109, 105, 116, 32, 112, 101, 114, 109, 105, 116] := by decide +kernel
theorem ev_bE : barrE yG gEn bP = 0 := by decide +kernel
theorem ev_bL : barrL yG gEn bP = [4, 5] := by decide +kernel
theorem ev_cb : barrCE yG gEn bP [4, 5, 6] = 19 := by decide +kernel
theorem ev_bM : barrE yG gEn bM = 24 := by decide +kernel
theorem ev_lf : leftL yG = [] := by decide +kernel
theorem ev_sc : those yG.s.length (secB yG) = [2] := by decide +kernel
def yAtext : List UInt8 := [115, 101, 99, 116, 105, 111, 110, 32, 103, 32, 115, 111, 117, 114, 99, 101, 10, 115, 101, 99, 116, 105, 111, 110, 32, 109, 32, 112, 108, 97, 105, 110, 10, 115, 101, 99, 116, 105, 111, 110, 32, 112, 32, 112, 108, 97, 105, 110, 10, 98, 114, 101, 97, 107, 101, 114, 32, 98, 32, 103, 32, 109, 32, 99, 108, 111, 115, 101, 100, 10, 105, 115, 111, 108, 97, 116, 111, 114, 32, 105, 32, 109, 32, 112, 32, 99, 108, 111, 115, 101, 100, 10, 101, 97, 114, 116, 104, 32, 101, 32, 112, 32, 111, 112, 101, 110, 10]
theorem ev_pr : printL yA = yAtext := by decide +kernel
theorem fits_shown (a b c : Bool) : Fits (shownY a b c) := by
  refine ⟨by show 3 ≤ 9; decide, by show 3 ≤ 9; decide, by show 0 ≤ 9; decide, ?_, ?_, ?_⟩
  · intro x hx; simp [shownY] at hx; rcases hx with rfl | rfl | rfl <;> (show 1 ≤ maxLen; unfold maxLen; decide)
  · intro x hx; simp [shownY] at hx; rcases hx with rfl | rfl | rfl <;> (show 1 ≤ maxLen; unfold maxLen; decide)
  · intro x hx; simp [shownY] at hx
theorem fits_yG : Fits yG := by
  have h := fits_shown false false true
  refine ⟨h.s9, h.w9, by decide +kernel, h.sn, h.wn, ?_⟩
  intro x hx
  simp [yG, grantY, yC, shownY] at hx
  subst hx
  show 1 ≤ maxLen
  unfold maxLen
  decide
end Go.Proofs.YtphlojgmfkgeiaaGreatDoor
/- The examples: each call. -/
namespace Go.Proofs.YtphlojgmfkgeiaaGreatDoor
open Go.RowKit Go.Sort Go.Shelf
set_option linter.unusedSimpArgs false
set_option linter.unusedVariables false
attribute [local go_sem] cell_if frozen_if grow_cell
section
variable {W : World} {A0 A1 A2 : Option Addr} {c0 c1 c2 : Nat}
theorem ex_st (h : YdAt W W.heap.size A0 A1 A2 yA.s.length yA.w.length yA.p.length yA) (hT : Tabs W) : Calls Tryz.prog 42 #[.agg #[.slice A0 yA.s.length c0, .slice A1 yA.w.length c1, .slice A2 yA.p.length c2]] W fun e w' => e = .returned (.tuple #[.int .i64 3, .int .i64 0]) ∧ Below W.heap.size W w' := by
  have := State_any W.heap.size A0 A1 A2 _ _ _ c0 c1 c2 yA W h (Nat.le_refl _) hT (fits_shown _ _ _)
  rw [ev_yA, if_pos rfl, show stUp yA.w yA.w.length = 3 from ev_st] at this
  exact this
theorem ex_is (h : YdAt W W.heap.size A0 A1 A2 yB.s.length yB.w.length yB.p.length yB) (hT : Tabs W) : Calls Tryz.prog 27 #[.agg #[.slice A0 yB.s.length c0, .slice A1 yB.w.length c1, .slice A2 yB.p.length c2]] W (IslsERes W [[0], [1, 2]] 0) := by
  have := Islands_any W.heap.size A0 A1 A2 _ _ _ c0 c1 c2 yB W h (Nat.le_refl _) hT (fits_shown _ _ _)
  rw [ev_yB, if_pos rfl, ev_isl] at this
  exact this
theorem ex_en (h : YdAt W W.heap.size A0 A1 A2 yA.s.length yA.w.length yA.p.length yA) (hT : Tabs W) : Calls Tryz.prog 28 #[.agg #[.slice A0 yA.s.length c0, .slice A1 yA.w.length c1, .slice A2 yA.p.length c2]] W (IntsERes W [0, 1, 2] 0) := by
  have := Energized_any W.heap.size A0 A1 A2 _ _ _ c0 c1 c2 yA W h (Nat.le_refl _) hT (fits_shown _ _ _)
  rw [ev_yA, ev_en] at this
  exact this
theorem ex_or (h : YdAt W W.heap.size A0 A1 A2 yA.s.length yA.w.length yA.p.length yA) (hT : Tabs W) : Calls Tryz.prog 52 #[.agg #[.slice A0 yA.s.length c0, .slice A1 yA.w.length c1, .slice A2 yA.p.length c2], .agg #[.string gSec, .string bP]] W (WordsERes W [⟨#[98]⟩, ⟨#[105]⟩, ⟨#[101]⟩] 0) := by
  have := Order_any W.heap.size A0 A1 A2 _ _ _ c0 c1 c2 yA W h (Nat.le_refl _) hT (fits_shown _ _ _) gSec bP (by show 1 ≤ maxLen; unfold maxLen; decide)
  rw [ev_oE, ev_oL] at this
  exact this
theorem ex_re (h : YdAt W W.heap.size A0 A1 A2 yA.s.length yA.w.length yA.p.length yA) (hT : Tabs W) : Calls Tryz.prog 44 #[.agg #[.slice A0 yA.s.length c0, .slice A1 yA.w.length c1, .slice A2 yA.p.length c2]] W (IntsERes W [0, 1, 2, 3, 4, 5, 6] 0) := by
  have := Reached_any W.heap.size A0 A1 A2 _ _ _ c0 c1 c2 yA W h (Nat.le_refl _) hT (fits_shown _ _ _)
  rw [ev_yA, ev_re] at this
  exact this
theorem ex_le (h : YdAt W W.heap.size A0 A1 A2 yC.s.length yC.w.length yC.p.length yC) (hT : Tabs W) : Calls Tryz.prog 32 #[.agg #[.slice A0 yC.s.length c0, .slice A1 yC.w.length c1, .slice A2 yC.p.length c2]] W (WordsERes W [⟨#[101]⟩] 0) := by
  have := Left_any W.heap.size A0 A1 A2 _ _ _ c0 c1 c2 yC W h (Nat.le_refl _) hT (fits_shown _ _ _)
  rw [ev_yC, ev_le] at this
  exact this
/-- A yard by value with no error. -/
def YdOk (w : World) (y : Yd) (e : Ending) (w' : World) : Prop := ∃ A0 A1 A2 c0 c1 c2, e = .returned (.tuple #[.agg #[.slice A0 y.s.length c0, .slice A1 y.w.length c1, .slice A2 y.p.length c2], .int .i64 0]) ∧ YdAt w' w'.heap.size A0 A1 A2 y.s.length y.w.length y.p.length y ∧ Below w.heap.size w w'
theorem YdERes.ok {w w' : World} {y : Yd} {e : Ending} (h : YdERes w 0 y e w') : YdOk w y e w' := by
  rcases h with ⟨_, D0, D2, d0, d2, g, rfl, hO, hb⟩ | ⟨h0, _⟩
  · exact ⟨D0, some ⟨g, 0, none⟩, D2, d0, y.w.length, d2, rfl, yd_own hO, hb⟩
  · exact absurd rfl h0
theorem ex_gr (h : YdAt W W.heap.size A0 A1 A2 yC.s.length yC.w.length yC.p.length yC) (hT : Tabs W) : Calls Tryz.prog 59 #[.agg #[.slice A0 yC.s.length c0, .slice A1 yC.w.length c1, .slice A2 yC.p.length c2], .string bK, .string bP] W (YdOk W yG) := by
  have := Grant_any W.heap.size A0 A1 A2 _ _ _ c0 c1 c2 yC W h (Nat.le_refl _) hT (fits_shown _ _ _) bK bP (by show 1 ≤ maxLen; unfold maxLen; decide) (by show 1 ≤ maxLen; unfold maxLen; decide)
  rw [ev_gr] at this
  exact this.mono fun _ _ h => h.ok
theorem ex_pr (h : YdAt W W.heap.size A0 A1 A2 yA.s.length yA.w.length yA.p.length yA) (hT : Tabs W) : Calls Tryz.prog 73 #[.agg #[.slice A0 yA.s.length c0, .slice A1 yA.w.length c1, .slice A2 yA.p.length c2]] W fun e w' => e = .returned (.tuple #[.string ⟨yAtext.toArray⟩, .int .i64 0]) ∧ Below W.heap.size W w' := by
  have := Print_any W.heap.size A0 A1 A2 _ _ _ c0 c1 c2 yA W h (Nat.le_refl _) hT (fits_shown _ _ _)
  rw [printS, ev_yA, if_pos rfl, ev_pr] at this
  exact this
theorem ex_lk {y : Yd} {t : List UInt8} (hE : ∀ nm ∈ bie, findE y nm = 0) (hl : locksL y = t) (hF : Fits y) (h : YdAt W W.heap.size A0 A1 A2 y.s.length y.w.length y.p.length y) (hT : Tabs W) : Calls Tryz.prog 80 #[.agg #[.slice A0 y.s.length c0, .slice A1 y.w.length c1, .slice A2 y.p.length c2]] W fun e w' => e = .returned (.string ⟨t.toArray⟩) ∧ Below W.heap.size W w' := by
  have := lawlocks_any W.heap.size A0 A1 A2 _ _ _ c0 c1 c2 y W h (Nat.le_refl _) hT hF hE
  rw [hl] at this
  exact this
theorem ex_bP (h : YdAt W W.heap.size A0 A1 A2 yG.s.length yG.w.length yG.p.length yG) (hT : Tabs W) : Calls Tryz.prog 19 #[.agg #[.slice A0 yG.s.length c0, .slice A1 yG.w.length c1, .slice A2 yG.p.length c2], .agg #[.string gEn, .string bP]] W (IntsERes W [4, 5] 0) := by
  have := Barrier_any W.heap.size A0 A1 A2 _ _ _ c0 c1 c2 yG W h (Nat.le_refl _) hT fits_yG gEn bP (by show 1 ≤ maxLen; unfold maxLen; decide)
  rw [ev_bE, ev_bL] at this
  exact this
theorem ex_bM (h : YdAt W W.heap.size A0 A1 A2 yG.s.length yG.w.length yG.p.length yG) (hT : Tabs W) : Calls Tryz.prog 19 #[.agg #[.slice A0 yG.s.length c0, .slice A1 yG.w.length c1, .slice A2 yG.p.length c2], .agg #[.string gEn, .string bM]] W (IntsERes W [] 24) := by
  have := Barrier_any W.heap.size A0 A1 A2 _ _ _ c0 c1 c2 yG W h (Nat.le_refl _) hT fits_yG gEn bM (by show 1 ≤ maxLen; unfold maxLen; decide)
  rw [ev_bM] at this
  exact this
theorem ex_cb (h : YdAt W W.heap.size A0 A1 A2 yG.s.length yG.w.length yG.p.length yG) (hT : Tabs W) (A : Option Addr) (hr : Reads W W.heap.size 1 A 3 [.int .i64 4, .int .i64 5, .int .i64 6]) : Calls Tryz.prog 21 #[.agg #[.slice A0 yG.s.length c0, .slice A1 yG.w.length c1, .slice A2 yG.p.length c2], .agg #[.string gEn, .string bP], .slice A 3 3] W fun e w' => e = .returned (.int .i64 19) ∧ Below W.heap.size W w' := by
  have := CheckBarrier_any W.heap.size A0 A1 A2 _ _ _ c0 c1 c2 yG W h (Nat.le_refl _) hT fits_yG gEn bP (by show 1 ≤ maxLen; unfold maxLen; decide) A 3 3 [4, 5, 6] hr (by unfold maxLen; decide)
  rw [ev_cb] at this
  exact this
theorem ex_lf (h : YdAt W W.heap.size A0 A1 A2 yG.s.length yG.w.length yG.p.length yG) (hT : Tabs W) : Calls Tryz.prog 32 #[.agg #[.slice A0 yG.s.length c0, .slice A1 yG.w.length c1, .slice A2 yG.p.length c2]] W (WordsERes W [] 0) := by
  have := Left_any W.heap.size A0 A1 A2 _ _ _ c0 c1 c2 yG W h (Nat.le_refl _) hT fits_yG
  rw [ev_yG, ev_lf] at this
  exact this
theorem ex_sc (h : YdAt W W.heap.size A0 A1 A2 yG.s.length yG.w.length yG.p.length yG) (hT : Tabs W) : Calls Tryz.prog 31 #[.agg #[.slice A0 yG.s.length c0, .slice A1 yG.w.length c1, .slice A2 yG.p.length c2]] W (IntsERes W [2] 0) := by
  have := Secured_any W.heap.size A0 A1 A2 _ _ _ c0 c1 c2 yG W h (Nat.le_refl _) hT fits_yG
  rw [ev_yG, ev_sc] at this
  exact this
end
end Go.Proofs.YtphlojgmfkgeiaaGreatDoor
/- The program is awake: the examples' results are those of the document. -/
namespace Go.Proofs.YtphlojgmfkgeiaaGreatDoor
open Go.RowKit Go.Sort Go.Shelf
set_option linter.unusedSimpArgs false
set_option linter.unusedVariables false
attribute [local go_sem] cell_if frozen_if grow_cell
theorem sh_A (w : World) : Calls Tryz.prog 78 #[.int .i64 3] w (ShRes w yA) := (shown3_any w).mono fun _ _ h => h.sh
theorem sh_B (w : World) : Calls Tryz.prog 78 #[.int .i64 2] w (ShRes w yB) := (shown2_any w).mono fun _ _ h => h.sh
theorem sh_C (w : World) : Calls Tryz.prog 78 #[.int .i64 4] w (ShRes w yC) := (shown4_any w).mono fun _ _ h => h.sh
theorem td_G {W : World} {A0 A1 A2 : Option Addr} {c0 c1 c2 : Nat} (h : YdAt W W.heap.size A0 A1 A2 yG.s.length yG.w.length yG.p.length yG) : Calls Tryz.prog 51 #[.agg #[.slice A0 yG.s.length c0, .slice A1 yG.w.length c1, .slice A2 yG.p.length c2]] W (ShRes W yG) :=
  (told_any W.heap.size A0 A1 A2 _ _ _ c0 c1 c2 yG W h (Nat.le_refl _) (by decide +kernel) (by decide +kernel) (by decide +kernel)).mono fun _ _ h => h.sh
theorem ow_G {W : World} {A0 A1 A2 : Option Addr} {c0 c1 c2 : Nat} (h : YdAt W W.heap.size A0 A1 A2 yG.s.length yG.w.length yG.p.length yG) : Calls Tryz.prog 20 #[.agg #[.slice A0 yG.s.length c0, .slice A1 yG.w.length c1, .slice A2 yG.p.length c2]] W (ShRes W yG) :=
  (own_any W.heap.size A0 A1 A2 _ _ _ c0 c1 c2 yG W h (Nat.le_refl _) (by decide +kernel) (by decide +kernel) (by decide +kernel)).mono fun _ _ h => h.sh
theorem same_I {W : World} {A : Option Addr} {n c : Nat} (xs : List Int) (cs : Array Value) (hn : xs.length = n) (hc : cs.toList = xs.map (.int .i64)) (hm : n ≤ 100) (h : Reads W W.heap.size 1 A n (xs.map (.int .i64))) : Calls Tryz.prog 37 #[.slice A n c, .slice (some ⟨W.heap.size, 0, none⟩) n n] (W.alloc (.cells cs 3)) fun e w' => e = .returned (.bool true) ∧ Below (W.alloc (.cells cs 3)).heap.size (W.alloc (.cells cs 3)) w' := by
  have hs : cs.size = n * 1 := by
    have := congrArg List.length hc
    simp at this
    omega
  have h2 := Reads.new (size := 1) W cs 3 n hs
  rw [hc] at h2
  have := SameInts_any W.heap.size (W.heap.size + 1) A (some ⟨W.heap.size, 0, none⟩) n n c n xs xs (W.alloc (.cells cs 3)) (h.alloc (Nat.le_refl _) _) h2 (by simp) (by simp) (by unfold maxLen; omega) (by unfold maxLen; omega)
  rw [sameI_eq, beq_self_eq_true] at this
  exact this
theorem sameW_self : ∀ l : List ByteArray, sameW l l = true
  | [] => rfl
  | x :: r => by rw [sameW, sameW_self r, beq_self_eq_true]; rfl
theorem same_W {W : World} {A : Option Addr} {n c : Nat} (xs : List ByteArray) (cs : Array Value) (hn : xs.length = n) (hc : cs.toList = xs.map .string) (hm : n ≤ 100) (h : Reads W W.heap.size 1 A n (xs.map .string)) : Calls Tryz.prog 79 #[.slice A n c, .slice (some ⟨W.heap.size, 0, none⟩) n n] (W.alloc (.cells cs 9)) fun e w' => e = .returned (.bool true) ∧ Below (W.alloc (.cells cs 9)).heap.size (W.alloc (.cells cs 9)) w' := by
  have hs : cs.size = n * 1 := by
    have := congrArg List.length hc
    simp at this
    omega
  have h2 := Reads.new (size := 1) W cs 9 n hs
  rw [hc] at h2
  have := SameWords_any W.heap.size (W.heap.size + 1) A (some ⟨W.heap.size, 0, none⟩) n n c n xs xs (W.alloc (.cells cs 9)) (h.alloc (Nat.le_refl _) _) h2 (by simp) (by simp) (by unfold maxLen; omega) (by unfold maxLen; omega)
  rw [sameW_self] at this
  exact this
theorem ex_prA {W : World} {A0 A1 A2 : Option Addr} {c0 c1 c2 : Nat} (h : YdAt W W.heap.size A0 A1 A2 yA.s.length yA.w.length yA.p.length yA) (hT : Tabs W) : Calls Tryz.prog 73 #[.agg #[.slice A0 yA.s.length c0, .slice A1 yA.w.length c1, .slice A2 yA.p.length c2]] W fun e w' => e = .returned (.tuple #[.string ⟨#[115, 101, 99, 116, 105, 111, 110, 32, 103, 32, 115, 111, 117, 114, 99, 101, 10, 115, 101, 99, 116, 105, 111, 110, 32, 109, 32, 112, 108, 97, 105, 110, 10, 115, 101, 99, 116, 105, 111, 110, 32, 112, 32, 112, 108, 97, 105, 110, 10, 98, 114, 101, 97, 107, 101, 114, 32, 98, 32, 103, 32, 109, 32, 99, 108, 111, 115, 101, 100, 10, 105, 115, 111, 108, 97, 116, 111, 114, 32, 105, 32, 109, 32, 112, 32, 99, 108, 111, 115, 101, 100, 10, 101, 97, 114, 116, 104, 32, 101, 32, 112, 32, 111, 112, 101, 110, 10]⟩, .int .i64 0]) ∧ Below W.heap.size W w' := ex_pr h hT
theorem ex_lkA {W : World} {A0 A1 A2 : Option Addr} {c0 c1 c2 : Nat} (h : YdAt W W.heap.size A0 A1 A2 yA.s.length yA.w.length yA.p.length yA) (hT : Tabs W) : Calls Tryz.prog 80 #[.agg #[.slice A0 yA.s.length c0, .slice A1 yA.w.length c1, .slice A2 yA.p.length c2]] W fun e w' => e = .returned (.string ⟨#[32, 32, 108, 111, 97, 100, 32, 115, 104, 111, 114, 116]⟩) ∧ Below W.heap.size W w' := ex_lk ev_fA ev_lA (fits_shown _ _ _) h hT
theorem ex_lkB {W : World} {A0 A1 A2 : Option Addr} {c0 c1 c2 : Nat} (h : YdAt W W.heap.size A0 A1 A2 yB.s.length yB.w.length yB.p.length yB) (hT : Tabs W) : Calls Tryz.prog 80 #[.agg #[.slice A0 yB.s.length c0, .slice A1 yB.w.length c1, .slice A2 yB.p.length c2]] W fun e w' => e = .returned (.string ⟨#[32, 32, 32, 97, 112, 97, 114, 116]⟩) ∧ Below W.heap.size W w' := ex_lk ev_fB ev_lB (fits_shown _ _ _) h hT
theorem ex_lkG {W : World} {A0 A1 A2 : Option Addr} {c0 c1 c2 : Nat} (h : YdAt W W.heap.size A0 A1 A2 yG.s.length yG.w.length yG.p.length yG) (hT : Tabs W) : Calls Tryz.prog 80 #[.agg #[.slice A0 yG.s.length c0, .slice A1 yG.w.length c1, .slice A2 yG.p.length c2]] W fun e w' => e = .returned (.string ⟨#[32, 32, 112, 101, 114, 109, 105, 116, 32, 112, 101, 114, 109, 105, 116]⟩) ∧ Below W.heap.size W w' := ex_lk ev_fG ev_lG fits_yG h hT
theorem isl_two {W : World} {A : Option Addr} {vs : List Value} (h : Reads W W.heap.size 1 A 2 vs) (he : ∀ (j : Nat) (v : Value) (zs : List Int), vs[j]? = some v → [[0], [1, 2]][j]? = some zs → ∃ A' c', v = .slice A' zs.length c' ∧ Reads W W.heap.size 1 A' zs.length (zs.map (.int .i64))) :
    ∃ b o A0 c0 A1 c1, A = some ⟨b, o, none⟩ ∧ b < W.heap.size ∧ W.cell? ⟨b, o, none⟩ = some (.slice A0 1 c0) ∧ W.cell? ⟨b, o + 1, none⟩ = some (.slice A1 2 c1) ∧ Reads W W.heap.size 1 A0 1 ([0].map (.int .i64)) ∧ Reads W W.heap.size 1 A1 2 ([1, 2].map (.int .i64)) := by
  obtain ⟨hl, h2⟩ := h
  obtain ⟨b, o, rfl, hb, hc⟩ := h2 (by decide)
  match vs, hl with
  | [v0, v1], _ =>
    obtain ⟨A0, c0, rfl, r0⟩ := he 0 v0 [0] rfl rfl
    obtain ⟨A1, c1, rfl, r1⟩ := he 1 v1 [1, 2] rfl rfl
    exact ⟨b, o, A0, c0, A1, c1, rfl, hb, hc 0 _ rfl, hc 1 _ rfl, r0, r1⟩
set_option maxRecDepth 1000000 in
set_option maxHeartbeats 8000000 in
theorem awake_any (w : World) (hT : Tabs w) : Calls Tryz.prog 14 #[] w fun e w' => e = .returned (.bool true) ∧ Below w.heap.size w w' := by
  have HT := Lib.hid (fun W (hW : Below w.heap.size w W) => hT.kept hW)
  clear hT
  go_enter Tryz.func14, Tryz.ntmps14
  go_wp2_with fail
  refine (sh_A _).mono ?_
  rintro e w1 ⟨A0, A1, A2, c0, c1, c2, rfl, hy, hb1⟩
  have hs1 := hb1.size
  have HY1 := Lib.hid hy
  have HB1 := Lib.hid (bl_ : Below w.heap.size w w1)
  clear hy
  go_wp2_with fail
  refine (ex_st HY1.out (HT.out _ HB1.out)).mono ?_
  rintro e w2 ⟨rfl, hb2⟩
  have hs2 := hb2.size
  go_wp2_with fail
  refine (sh_B _).mono ?_
  rintro e w3 ⟨A0, A1, A2, c0, c1, c2, rfl, hy, hb3⟩
  have hs3 := hb3.size
  have HY3 := Lib.hid hy
  have HB3 := Lib.hid (bl_ : Below w.heap.size w w3)
  clear hy
  go_wp2_with fail
  refine (ex_is HY3.out (HT.out _ HB3.out)).mono ?_
  rintro e w4 ⟨Al, cl, vs, rfl, hrl, hel, hb4⟩
  have hs4 := hb4.size
  obtain ⟨bl, ol, B0, d0, B1, d1, rfl, hbl, z0, z1, rl0, rl1⟩ := isl_two hrl hel
  have RL0 := Lib.hid rl0
  have RL1 := Lib.hid rl1
  have Z0 := Lib.hid z0
  have Z1 := Lib.hid z1
  have HBL := Lib.hid hbl
  clear hrl hel rl0 rl1 z0 z1 hbl
  go_wp2_with fail
  refine (sh_A _).mono ?_
  rintro e w5 ⟨A0, A1, A2, c0, c1, c2, rfl, hy, hb5⟩
  have hs5 := hb5.size
  have HY5 := Lib.hid hy
  have HB5 := Lib.hid (bl_ : Below w.heap.size w w5)
  clear hy
  go_wp2_with fail
  refine (ex_en HY5.out (HT.out _ HB5.out)).mono ?_
  rintro e w6 ⟨An, cn, rfl, hrn, hb6⟩
  have hs6 := hb6.size
  have RN := Lib.hid hrn
  clear hrn
  go_wp2_with fail
  refine (sh_A _).mono ?_
  rintro e w7 ⟨A0, A1, A2, c0, c1, c2, rfl, hy, hb7⟩
  have hs7 := hb7.size
  have HY7 := Lib.hid hy
  have HB7 := Lib.hid (bl_ : Below w.heap.size w w7)
  clear hy
  go_wp2_with fail
  refine (ex_or HY7.out (HT.out _ HB7.out)).mono ?_
  rintro e w8 ⟨Ao, co, rfl, hro, hb8⟩
  have hs8 := hb8.size
  have RO := Lib.hid hro
  clear hro
  go_wp2_with fail
  refine (sh_A _).mono ?_
  rintro e w9 ⟨A0, A1, A2, c0, c1, c2, rfl, hy, hb9⟩
  have hs9 := hb9.size
  have HY9 := Lib.hid hy
  have HB9 := Lib.hid (bl_ : Below w.heap.size w w9)
  clear hy
  go_wp2_with fail
  refine (ex_re HY9.out (HT.out _ HB9.out)).mono ?_
  rintro e w10 ⟨Ar, cr, rfl, hrr, hb10⟩
  have hs10 := hb10.size
  have RR := Lib.hid hrr
  clear hrr
  go_wp2_with fail
  refine (sh_C _).mono ?_
  rintro e w11 ⟨A0, A1, A2, c0, c1, c2, rfl, hy, hb11⟩
  have hs11 := hb11.size
  have HY11 := Lib.hid hy
  have HB11 := Lib.hid (bl_ : Below w.heap.size w w11)
  clear hy
  go_wp2_with fail
  refine (ex_le HY11.out (HT.out _ HB11.out)).mono ?_
  rintro e w12 ⟨Af, cf, rfl, hrf, hb12⟩
  have hs12 := hb12.size
  have RF := Lib.hid hrf
  clear hrf
  go_wp2_with fail
  refine (sh_C _).mono ?_
  rintro e w13 ⟨A0, A1, A2, c0, c1, c2, rfl, hy, hb13⟩
  have hs13 := hb13.size
  have HY13 := Lib.hid hy
  have HB13 := Lib.hid (bl_ : Below w.heap.size w w13)
  clear hy
  go_wp2_with fail
  refine (ex_gr HY13.out (HT.out _ HB13.out)).mono ?_
  rintro e w14 ⟨G0, G1, G2, g0, g1, g2, rfl, hyg, hb14⟩
  have hs14 := hb14.size
  have HYG := Lib.hid hyg
  clear hyg
  go_wp2_with fail
  have BG := Lib.hid (Blk.new w14 41 #[.slice G0 yG.s.length g0, .slice G1 yG.w.length g1, .slice G2 yG.p.length g2])
  refine (sh_A _).mono ?_
  rintro e w15 ⟨A0, A1, A2, c0, c1, c2, rfl, hy, hb15⟩
  have hs15 := hb15.size
  simp at hs15
  have HY15 := Lib.hid hy
  have HB15 := Lib.hid (bl_ : Below w.heap.size w w15)
  clear hy
  go_wp2_with fail
  refine (ex_prA HY15.out (HT.out _ HB15.out)).mono ?_
  rintro e w16 ⟨rfl, hb16⟩
  have hs16 := hb16.size
  have hbl := HBL.out
  have z0 := Z0.out
  rw [← (bl_ : Below w4.heap.size w4 w16).cell (p := ⟨bl, ol, none⟩) hbl] at z0
  go_wp2_with fail
  refine (same_I [0] _ rfl rfl (by decide) (rd_kept RL0.out (bl_ : Below w4.heap.size w4 w16))).mono ?_
  rintro e w17 ⟨rfl, hb17⟩
  have hs17 := hb17.size
  simp at hs17
  have z1 := Z1.out
  rw [← (bl_ : Below w4.heap.size w4 w17).cell (p := ⟨bl, ol + 1, none⟩) hbl] at z1
  go_wp2_with fail
  refine (same_I [1, 2] _ rfl rfl (by decide) (rd_kept RL1.out (bl_ : Below w4.heap.size w4 w17))).mono ?_
  rintro e w18 ⟨rfl, hb18⟩
  have hs18 := hb18.size
  simp at hs18
  go_wp2_with fail
  refine (same_I [0, 1, 2] _ rfl rfl (by decide) (rd_kept RN.out (bl_ : Below w6.heap.size w6 w18))).mono ?_
  rintro e w19 ⟨rfl, hb19⟩
  have hs19 := hb19.size
  simp at hs19
  go_wp2_with fail
  refine (same_W [⟨#[98]⟩, ⟨#[105]⟩, ⟨#[101]⟩] _ rfl rfl (by decide) (rd_kept RO.out (bl_ : Below w8.heap.size w8 w19))).mono ?_
  rintro e w20 ⟨rfl, hb20⟩
  have hs20 := hb20.size
  simp at hs20
  go_wp2_with fail
  refine (same_I [0, 1, 2, 3, 4, 5, 6] _ rfl rfl (by decide) (rd_kept RR.out (bl_ : Below w10.heap.size w10 w20))).mono ?_
  rintro e w21 ⟨rfl, hb21⟩
  have hs21 := hb21.size
  simp at hs21
  go_wp2_with fail
  refine (same_W [⟨#[101]⟩] _ rfl rfl (by decide) (rd_kept RF.out (bl_ : Below w12.heap.size w12 w21))).mono ?_
  rintro e w22 ⟨rfl, hb22⟩
  have hs22 := hb22.size
  simp at hs22
  have HB22 := Lib.hid (bl_ : Below w.heap.size w w22)
  have BG22 := Lib.hid (BG.out.kept (bl_ : Below (w14.alloc (.cells #[.slice G0 yG.s.length g0, .slice G1 yG.w.length g1, .slice G2 yG.p.length g2] 41)).heap.size (w14.alloc (.cells #[.slice G0 yG.s.length g0, .slice G1 yG.w.length g1, .slice G2 yG.p.length g2] 41)) w22))
  have HYG22 := Lib.hid (yd_kept HYG.out (bl_ : Below w14.heap.size w14 w22))
  clear z0 z1 hbl
  go_wp2_with fail
  refine (sh_A _).mono ?_
  rintro e w23 ⟨A0, A1, A2, c0, c1, c2, rfl, hy, hb23⟩
  have hs23 := hb23.size
  (try simp at hs23)
  have HY23 := Lib.hid hy
  have HB23 := Lib.hid (bl_ : Below w.heap.size w w23)
  clear hy
  go_wp2_with fail
  refine (ex_lkA HY23.out (HT.out _ HB23.out)).mono ?_
  rintro e w24 ⟨rfl, hb24⟩
  have hs24 := hb24.size
  (try simp at hs24)
  go_wp2_with fail
  refine (sh_B _).mono ?_
  rintro e w25 ⟨A0, A1, A2, c0, c1, c2, rfl, hy, hb25⟩
  have hs25 := hb25.size
  (try simp at hs25)
  have HY25 := Lib.hid hy
  have HB25 := Lib.hid (bl_ : Below w.heap.size w w25)
  clear hy
  go_wp2_with fail
  refine (ex_lkB HY25.out (HT.out _ HB25.out)).mono ?_
  rintro e w26 ⟨rfl, hb26⟩
  have hs26 := hb26.size
  (try simp at hs26)
  have cg := (BG22.out.kept (bl_ : Below w22.heap.size w22 w26)).cell
  have lg := (BG22.out.kept (bl_ : Below w22.heap.size w22 w26)).lt
  go_wp2_with fail
  refine (ex_lkG (yd_kept HYG22.out (bl_ : Below w22.heap.size w22 w26)) (HT.out _ (bl_ : Below w.heap.size w w26))).mono ?_
  rintro e w27 ⟨rfl, hb27⟩
  have hs27 := hb27.size
  (try simp at hs27)
  clear cg lg
  have cg := (BG22.out.kept (bl_ : Below w22.heap.size w22 w27)).cell
  have lg := (BG22.out.kept (bl_ : Below w22.heap.size w22 w27)).lt
  go_wp2_with fail
  refine (td_G (yd_kept HYG22.out (bl_ : Below w22.heap.size w22 w27))).mono ?_
  rintro e w28 ⟨A0, A1, A2, c0, c1, c2, rfl, hy, hb28⟩
  have hs28 := hb28.size
  (try simp at hs28)
  have HY28 := Lib.hid hy
  have HB28 := Lib.hid (bl_ : Below w.heap.size w w28)
  clear hy
  clear cg lg
  go_wp2_with fail
  refine (ow_G HY28.out).mono ?_
  rintro e w29 ⟨A0, A1, A2, c0, c1, c2, rfl, hy, hb29⟩
  have hs29 := hb29.size
  (try simp at hs29)
  have HY29 := Lib.hid hy
  have HB29 := Lib.hid (bl_ : Below w.heap.size w w29)
  clear hy
  go_wp2_with fail
  refine (ex_bP HY29.out (HT.out _ HB29.out)).mono ?_
  rintro e w30 ⟨Ab, cb, rfl, hrb, hb30⟩
  have hs30 := hb30.size
  (try simp at hs30)
  have RB := Lib.hid hrb
  clear hrb
  have cg := (BG22.out.kept (bl_ : Below w22.heap.size w22 w30)).cell
  have lg := (BG22.out.kept (bl_ : Below w22.heap.size w22 w30)).lt
  go_wp2_with fail
  refine (td_G (yd_kept HYG22.out (bl_ : Below w22.heap.size w22 w30))).mono ?_
  rintro e w31 ⟨A0, A1, A2, c0, c1, c2, rfl, hy, hb31⟩
  have hs31 := hb31.size
  (try simp at hs31)
  have HY31 := Lib.hid hy
  have HB31 := Lib.hid (bl_ : Below w.heap.size w w31)
  clear hy
  clear cg lg
  go_wp2_with fail
  refine (ow_G HY31.out).mono ?_
  rintro e w32 ⟨A0, A1, A2, c0, c1, c2, rfl, hy, hb32⟩
  have hs32 := hb32.size
  (try simp at hs32)
  have HY32 := Lib.hid hy
  have HB32 := Lib.hid (bl_ : Below w.heap.size w w32)
  clear hy
  go_wp2_with fail
  refine (ex_cb (yd_kept HY32.out (bl_ : Below w32.heap.size w32 _)) (HT.out _ bl_) _ ((by simpa using Reads.new (size := 1) w32 #[Value.int .i64 4, .int .i64 5, .int .i64 6] 3 3 rfl : Reads (w32.alloc (.cells #[Value.int .i64 4, .int .i64 5, .int .i64 6] 3)) (w32.heap.size + 1) 1 (some ⟨w32.heap.size, 0, none⟩) 3 [.int .i64 4, .int .i64 5, .int .i64 6]).more (by simp))).mono ?_
  rintro e w33 ⟨rfl, hb33⟩
  have hs33 := hb33.size
  (try simp at hs33)
  have cg := (BG22.out.kept (bl_ : Below w22.heap.size w22 w33)).cell
  have lg := (BG22.out.kept (bl_ : Below w22.heap.size w22 w33)).lt
  go_wp2_with fail
  refine (td_G (yd_kept HYG22.out (bl_ : Below w22.heap.size w22 w33))).mono ?_
  rintro e w34 ⟨A0, A1, A2, c0, c1, c2, rfl, hy, hb34⟩
  have hs34 := hb34.size
  (try simp at hs34)
  have HY34 := Lib.hid hy
  have HB34 := Lib.hid (bl_ : Below w.heap.size w w34)
  clear hy
  clear cg lg
  go_wp2_with fail
  refine (ow_G HY34.out).mono ?_
  rintro e w35 ⟨A0, A1, A2, c0, c1, c2, rfl, hy, hb35⟩
  have hs35 := hb35.size
  (try simp at hs35)
  have HY35 := Lib.hid hy
  have HB35 := Lib.hid (bl_ : Below w.heap.size w w35)
  clear hy
  go_wp2_with fail
  refine (ex_bM HY35.out (HT.out _ HB35.out)).mono ?_
  rintro e w36 ⟨Am, cm, rfl, hrm, hb36⟩
  have hs36 := hb36.size
  (try simp at hs36)
  clear hrm
  have cg := (BG22.out.kept (bl_ : Below w22.heap.size w22 w36)).cell
  have lg := (BG22.out.kept (bl_ : Below w22.heap.size w22 w36)).lt
  go_wp2_with fail
  refine (td_G (yd_kept HYG22.out (bl_ : Below w22.heap.size w22 w36))).mono ?_
  rintro e w37 ⟨A0, A1, A2, c0, c1, c2, rfl, hy, hb37⟩
  have hs37 := hb37.size
  (try simp at hs37)
  have HY37 := Lib.hid hy
  have HB37 := Lib.hid (bl_ : Below w.heap.size w w37)
  clear hy
  clear cg lg
  go_wp2_with fail
  refine (ow_G HY37.out).mono ?_
  rintro e w38 ⟨A0, A1, A2, c0, c1, c2, rfl, hy, hb38⟩
  have hs38 := hb38.size
  (try simp at hs38)
  have HY38 := Lib.hid hy
  have HB38 := Lib.hid (bl_ : Below w.heap.size w w38)
  clear hy
  go_wp2_with fail
  refine (ex_lf HY38.out (HT.out _ HB38.out)).mono ?_
  rintro e w39 ⟨Aq, cq, rfl, hrq, hb39⟩
  have hs39 := hb39.size
  (try simp at hs39)
  clear hrq
  have cg := (BG22.out.kept (bl_ : Below w22.heap.size w22 w39)).cell
  have lg := (BG22.out.kept (bl_ : Below w22.heap.size w22 w39)).lt
  go_wp2_with fail
  refine (td_G (yd_kept HYG22.out (bl_ : Below w22.heap.size w22 w39))).mono ?_
  rintro e w40 ⟨A0, A1, A2, c0, c1, c2, rfl, hy, hb40⟩
  have hs40 := hb40.size
  (try simp at hs40)
  have HY40 := Lib.hid hy
  have HB40 := Lib.hid (bl_ : Below w.heap.size w w40)
  clear hy
  clear cg lg
  go_wp2_with fail
  refine (ow_G HY40.out).mono ?_
  rintro e w41 ⟨A0, A1, A2, c0, c1, c2, rfl, hy, hb41⟩
  have hs41 := hb41.size
  (try simp at hs41)
  have HY41 := Lib.hid hy
  have HB41 := Lib.hid (bl_ : Below w.heap.size w w41)
  clear hy
  go_wp2_with fail
  refine (ex_sc HY41.out (HT.out _ HB41.out)).mono ?_
  rintro e w42 ⟨As, cs, rfl, hrs, hb42⟩
  have hs42 := hb42.size
  (try simp at hs42)
  have RS := Lib.hid hrs
  clear hrs
  go_wp2_with fail
  refine (same_I [4, 5] _ rfl rfl (by decide) (rd_kept RB.out (bl_ : Below w30.heap.size w30 w42))).mono ?_
  rintro e w43 ⟨rfl, hb43⟩
  have hs43 := hb43.size
  (try simp at hs43)
  go_wp2_with fail
  refine (same_I [2] _ rfl rfl (by decide) (rd_kept RS.out (bl_ : Below w42.heap.size w42 w43))).mono ?_
  rintro e w44 ⟨rfl, hb44⟩
  have hs44 := hb44.size
  (try simp at hs44)
  go_wp2_with fail
  go_ret
  exact ⟨rfl, bl_⟩
end Go.Proofs.YtphlojgmfkgeiaaGreatDoor
