/- CheckOrder. -/
import Derived.Test.YtphlojgmfkgeiaaGreatDoorWM
import Derived.Test.YtphlojgmfkgeiaaGreatDoorNP
import Derived.Test.YtphlojgmfkgeiaaGreatDoorGE
namespace Go.Proofs.YtphlojgmfkgeiaaGreatDoor
open Go.RowKit Go.Sort Go.Shelf
set_option linter.unusedSimpArgs false
set_option linter.unusedVariables false
attribute [local go_sem] cell_if frozen_if grow_cell
def ordGo (gk gs : ByteArray) : Yd → List ByteArray → Int
  | z, [] => whenE (!holdsB gk gs z) 32
  | z, nm :: r => if moveR z nm = 0 then ordGo gk gs (z.mv (atB z nm).toNat) r else moveR z nm
def ordCE (y : Yd) (gk gs : ByteArray) (l : List ByteArray) : Int := or0 (whenE (decide (256 < (l.length : Int))) 5) (ordGo gk gs y l)
theorem fits_mv {y : Yd} (h : Fits y) (i : Nat) : Fits (y.mv i) :=
  ⟨h.s9, by have := h.w9; show (moved y.w i).length ≤ 9; rw [moved_len]; exact this, h.p9, h.sn, fun x hx => by
    have hx' : x ∈ moved y.w i := hx
    obtain ⟨j, hj, rfl⟩ := List.getElem_of_mem hx'
    rw [moved_len] at hj
    have e : (moved y.w i)[j].n = y.w[j].n := by
      simp only [moved, List.getElem_modify]
      split <;> rfl
    rw [e]
    exact h.wn _ (List.getElem_mem hj), h.pn⟩
/-- What stays while moves are made. -/
structure OrI (w : World) (b8 : Nat) (PT : TypeId) (z : Yd) (gs : ByteArray) (D0 D1 D2 : Option Addr) (d0 d1 d2 : Nat) (W : World) : Prop where
  blk : Blk W b8 PT #[.slice D0 z.s.length d0, .slice D1 z.w.length d1, .slice D2 z.p.length d2]
  yd : YdR [b8] W z D0 D1 D2 z.s.length z.w.length z.p.length
  ok : yardE z = 0
  fit : Fits z
  sec : 0 ≤ secAtB z gs
  low : Below w.heap.size w W
theorem OrI.kept {w : World} {b8 : Nat} {PT : TypeId} {z : Yd} {gs : ByteArray} {D0 D1 D2 : Option Addr} {d0 d1 d2 : Nat} {W W' : World} (h : OrI w b8 PT z gs D0 D1 D2 d0 d1 d2 W) (hb : Below W.heap.size W W') : OrI w b8 PT z gs D0 D1 D2 d0 d1 d2 W' :=
  ⟨h.blk.kept hb, h.yd.ex (Ex.of_below hb), h.ok, h.fit, h.sec, h.low.trans (hb.mono h.low.size)⟩
/-- A move's result: a yard that stays, whatever becomes of blocks that lie elsewhere; or none. -/
def MvR (w : World) (er : Int) (z : Yd) (e : Ending) (w' : World) : Prop :=
  (er = 0 ∧ ∃ A0 A1 A2 c0 c1 c2, e = .returned (.tuple #[.agg #[.slice A0 z.s.length c0, .slice A1 z.w.length c1, .slice A2 z.p.length c2], .int .i64 0]) ∧ (∀ X : List Nat, (∀ x ∈ X, x < w.heap.size ∨ w'.heap.size ≤ x) → YdR X w' z A0 A1 A2 z.s.length z.w.length z.p.length) ∧ Below w.heap.size w w') ∨
  (er ≠ 0 ∧ e = .returned (.tuple #[.agg #[.slice none 0 0, .slice none 0 0, .slice none 0 0], .int .i64 er]) ∧ Below w.heap.size w w')
theorem YdR.of_ownX {X : List Nat} {W : World} {base g : Nat} {z : Yd} {A0 A2 : Option Addr} {c0 c2 : Nat} (h : OwnYd base z (.slice A0 z.s.length c0) (.slice A2 z.p.length c2) g W) (hX : ∀ x ∈ X, x < base ∨ W.heap.size ≤ x) : YdR X W z A0 (some ⟨g, 0, none⟩) A2 z.s.length z.w.length z.p.length := fun W' h' =>
  yd_own ⟨row_exX h.1 h' hX, h.2.1.ex h' (fun hx => by have := hX g hx; have := h.2.2.1; have := h.2.1.lt; omega), h.2.2.1, row_exX h.2.2.2 h' hX⟩
theorem YdERes.mv {w : World} {er : Int} {z : Yd} {e : Ending} {w' : World} (h : YdERes w er z e w') : MvR w er z e w' := by
  rcases h with ⟨h1, A0, A2, c0, c2, g, rfl, h2, h3⟩ | h
  · exact .inl ⟨h1, A0, _, A2, c0, _, c2, rfl, fun X hX => YdR.of_ownX h2 hX, h3⟩
  · exact .inr h
theorem YdRRes.mv {w : World} {er : Int} {z : Yd} {e : Ending} {w' : World} (h : YdRRes w er z e w') : MvR w er z e w' := by
  rcases h with ⟨h1, A0, A1, A2, c0, c1, c2, rfl, h2, h3⟩ | h
  · exact .inl ⟨h1, A0, A1, A2, c0, c1, c2, rfl, fun X hX => YdR.of_row h2 hX, h3⟩
  · exact .inr h
theorem moveR_ok {z : Yd} {nm : ByteArray} (hz : yardE z = 0) (h : moveR z nm = 0) : yardE (z.mv (atB z nm).toNat) = 0 := (move_ok (by rw [moveE_R hz]; exact h)).2.2
theorem ordGo_nil (gk gs : ByteArray) (z : Yd) : ordGo gk gs z [] = whenE (!holdsB gk gs z) 32 := rfl
theorem ordGo_ok {gk gs : ByteArray} {z : Yd} {nm : ByteArray} {r : List ByteArray} (h : moveR z nm = 0) : ordGo gk gs z (nm :: r) = ordGo gk gs (z.mv (atB z nm).toNat) r := by
  show (if _ then _ else _) = _
  rw [if_pos h]
theorem ordGo_no {gk gs : ByteArray} {z : Yd} {nm : ByteArray} {r : List ByteArray} (h : moveR z nm ≠ 0) : ordGo gk gs z (nm :: r) = moveR z nm := by
  show (if _ then _ else _) = _
  rw [if_neg h]
theorem first2_or (a b : Int) : firstE [a, b] = or0 a b := by
  rw [firstE_cons, firstE_cons]
  show or0 a (or0 b 0) = or0 a b
  congr 1
  unfold or0
  split
  · rename_i h; exact h.symm
  · rfl
theorem or0_three {a b c : Int} (h : or0 a b ≠ 0) : or0 a (or0 b c) = or0 a b := by
  by_cases ha : a = 0
  · rw [or0_pos ha] at h ⊢
    rw [or0_pos ha, or0_neg h]
  · rw [or0_neg ha, or0_neg ha]
set_option maxRecDepth 100000 in
set_option maxHeartbeats 4000000 in
theorem CheckOrder_any (B : Nat) (A0 A1 A2 : Option Addr) (n0 n1 n2 c0 c1 c2 : Nat) (y : Yd) (w : World) (hY : YdAt w B A0 A1 A2 n0 n1 n2 y) (hB : B ≤ w.heap.size) (hT : Tabs w) (hF : Fits y) (gk gs : ByteArray) (hgs : gs.size ≤ maxLen) (A : Option Addr) (n c : Nat) (l : List ByteArray) (hr : Reads w w.heap.size 1 A n (l.map .string)) (hn : n ≤ 100000) :
    Calls Tryz.prog 53 #[.agg #[.slice A0 n0 c0, .slice A1 n1 c1, .slice A2 n2 c2], .agg #[.string gk, .string gs], .slice A n c] w fun e w' => e = .returned (.int .i64 (or0 (goalE y gk gs) (ordCE y gk gs l))) ∧ Below w.heap.size w w' := by
  have hl0 := (sec_at hY.hs).1
  have hl1 := (sw_at hY.hw).1
  have hl2 := (pm_at hY.hp).1
  have hll : l.length = n := by simpa using hr.1
  have H1 := Lib.hid (fun W (hW : Below w.heap.size w W) => checkGoal_any B A0 A1 A2 n0 n1 n2 c0 c1 c2 y W (hY.below (hW.mono hB)) (by have := hW.size; omega) (hT.kept hW) hF gk gs hgs)
  have HW1 := Lib.hid (fun W => pwhen_any (decide (256 < (n : Int))) 5 W)
  have HMv := Lib.hid (fun W D0 D1 D2 d0 d1 d2 z nm (hW : Below w.heap.size w W) (hz : YdAt W W.heap.size D0 D1 D2 z.s.length z.w.length z.p.length z) (hf : Fits z) => (Move_any W.heap.size D0 D1 D2 z.s.length z.w.length z.p.length d0 d1 d2 z W hz (Nat.le_refl _) (hT.kept hW) hf nm).mono fun _ _ h => YdERes.mv h)
  have HHo := Lib.hid (fun W D0 D1 D2 d0 d1 d2 z (hz : YdAt W W.heap.size D0 D1 D2 z.s.length z.w.length z.p.length z) (hf : Fits z) (he : yardE z = 0) (h0 : 0 ≤ secAtB z gs) => holds_any W.heap.size D0 D1 D2 z.s.length z.w.length z.p.length d0 d1 d2 z W hz (Nat.le_refl _) (yard_ok he).1 hf.sn gk gs hgs h0)
  have HWw := Lib.hid (fun b W => pwhen_any b 32 W)
  have HR := Lib.hid hr
  have HLL := Lib.hid hll
  by_cases hh : firstE [goalE y gk gs, whenE (decide (256 < (n : Int))) 5] = 0
  case neg =>
    have HV : Hid (or0 (goalE y gk gs) (ordCE y gk gs l) = firstE [goalE y gk gs, whenE (decide (256 < (n : Int))) 5]) := by
      show _ = _
      unfold ordCE
      rw [HLL.out]
      rw [first2_or] at hh ⊢
      exact or0_three hh
    rw [HV.out]
    clear hY hT hF hr hll HV HMv HHo HWw
    generalize goalE y gk gs = a1 at *
    generalize whenE (decide (256 < (n : Int))) 5 = a2 at *
    go_enter Tryz.func53, Tryz.ntmps53
    go_wp2_with fail
    refine (H1.out _ bl_).mono ?_
    (rintro e w2 ⟨rfl, hb2⟩; have hs2 := hb2.size; (try simp at hs2))
    go_wp2_with fail
    refine (HW1.out _).mono ?_
    rintro e w3 ⟨rfl, rfl⟩
    go_wp2_with fail
    refine (pfirst_any (w2.heap.size + 1) _ 2 2 [a1, a2] _ (by simpa using Reads.new (size := 1) w2 (([a1, a2] : List Int).map (.int .i64)).toArray 34 2 rfl : Reads (w2.alloc (.cells (([a1, a2] : List Int).map (.int .i64)).toArray 34)) (w2.heap.size + 1) 1 (some ⟨w2.heap.size, 0, none⟩) 2 (([a1, a2] : List Int).map (.int .i64))) (by unfold maxLen; decide)).mono ?_
    rintro e w5 ⟨rfl, rfl⟩
    go_wp2_with fail
    go_ret
    exact ⟨rfl, bl_⟩
  case pos =>
    have hz1 : goalE y gk gs = 0 ∧ whenE (decide (256 < (n : Int))) 5 = 0 := first2_zeroV hh
    have hyE := (goalE_zero hz1.1).1
    have hsec := (goalE_zero hz1.1).2.2
    have HV : Hid (or0 (goalE y gk gs) (ordCE y gk gs l) = ordGo gk gs y (l.drop 0)) := by
      show _ = _
      unfold ordCE
      rw [HLL.out, hz1.1, hz1.2, or0_pos rfl, or0_pos rfl, List.drop_zero]
    rw [HV.out]
    have hfe := hh
    rw [hz1.1, hz1.2] at hfe
    rw [hz1.1] at H1
    rw [hz1.2] at HW1
    have hO0 : OrI w w.heap.size 41 y gs A0 A1 A2 c0 c1 c2 w → True := fun _ => trivial
    have HYR := Lib.hid (fun W X (hW : Below w.heap.size w W) (hX : ∀ x ∈ X, B ≤ x) => (fun W' h' => (hY.below (hW.mono hB)).ex (Nat.le_trans hB hW.size) h' hX : YdR X W y A0 A1 A2 n0 n1 n2))
    rw [← hl0, ← hl1, ← hl2] at HYR
    have HG0 := Lib.hid (And.intro hyE (And.intro hF hsec))
    have HL0 := Lib.hid hl0
    have HL1 := Lib.hid hl1
    have HL2 := Lib.hid hl2
    clear hO0 hh hz1 hyE hsec hY hT hF hr hll hl0 hl1 hl2
    go_enter Tryz.func53, Tryz.ntmps53
    go_wp2_with fail
    refine (H1.out _ bl_).mono ?_
    (rintro e w2 ⟨rfl, hb2⟩; have hs2 := hb2.size; (try simp at hs2))
    have BY2 := Lib.hid (bk_ : Blk w2 w.heap.size 41 #[.slice A0 n0 c0, .slice A1 n1 c1, .slice A2 n2 c2])
    have BG2 := Lib.hid (bk_ : Blk w2 (w.heap.size + 1) 43 #[.string gk, .string gs])
    have HB2 := Lib.hid (bl_ : Below w.heap.size w w2)
    clear hb2
    have hb2 := HB2.out
    have cY := BY2.out.cell
    have lY := BY2.out.lt
    go_wp2_with fail
    refine (HW1.out _).mono ?_
    rintro e w3 ⟨rfl, rfl⟩
    go_wp2_with fail
    refine (pfirst_any (w2.heap.size + 1) _ 2 2 [0, 0] _ (by simpa using Reads.new (size := 1) w2 (([0, 0] : List Int).map (.int .i64)).toArray 34 2 rfl : Reads (w2.alloc (.cells (([0, 0] : List Int).map (.int .i64)).toArray 34)) (w2.heap.size + 1) 1 (some ⟨w2.heap.size, 0, none⟩) 2 (([0, 0] : List Int).map (.int .i64))) (by unfold maxLen; decide)).mono ?_
    rintro e w5 ⟨rfl, rfl⟩
    rw [hfe]
    go_wp2_with fail
    go_loopw [28] (fun i wr => ∃ (k : Nat) (z : Yd) (D0 D1 D2 : Option Addr) (d0 d1 d2 : Nat), i = .int .i64 k ∧ k ≤ n ∧ Hid (ordGo gk gs y (l.drop 0) = ordGo gk gs z (l.drop k)) ∧ OrI w (w2.heap.size + 1) 41 z gs D0 D1 D2 d0 d1 d2 wr ∧ Blk wr (w.heap.size + 1) 43 #[.string gk, .string gs]) (fun i _ => n - (intOf i).toNat)
    case atStart =>
      have bg := BG2.out
      refine ⟨0, y, A0, A1, A2, c0, c1, c2, rfl, by omega, Lib.hid rfl, ⟨?_, ?_, HG0.out.1, HG0.out.2.1, HG0.out.2.2, bl_⟩, bk_⟩
      · rw [HL0.out, HL1.out, HL2.out]; exact bk_
      · exact HYR.out _ _ bl_ (fun x hx => by simp at hx; omega)
    case round =>
      clear BY2 BG2 HB2 cY lY HYR HG0 HV H1 HW1 hfe HL0 HL1 HL2
      obtain ⟨k, z, D0, D1, D2, d0, d1, d2, rfl, hkn, hV, hI, hG⟩ := hrel
      have hb := hI.low
      have hsr := hb.size
      have hsw2 : w.heap.size + 1 + 1 ≤ w2.heap.size := by first | omega | (have := hb2.size; simp at this; omega)
      clear hb2 hs2
      have cZ := hI.blk.cell
      have lZ := hI.blk.lt
      have cG := hG.cell
      have lG := hG.lt
      have HI := Lib.hid hI
      have HGk := Lib.hid hG
      have HK := Lib.hid hV.out
      clear hI hG hV
      by_cases hlt : k < n
      · have hkl : k < l.length := by rw [HLL.out]; exact hlt
        obtain ⟨b, o, eA, hbb, hcs⟩ := HR.out.2 (by omega)
        have kb : ∀ i, wr.cell? ⟨b, i, none⟩ = w.cell? ⟨b, i, none⟩ := fun i => hb.cell (p := ⟨b, i, none⟩) (by simp; omega)
        have hbw : b < wr.heap.size := by omega
        have z0 := (kb _).trans (hcs k (.string l[k]) (by simp [hkl]))
        clear kb hcs
        subst eA
        have HD := Lib.hid (List.drop_eq_getElem_cons hkl)
        rw [HD.out] at HK
        generalize l[k] = nm at *
        have HM := Lib.hid (fun W hW hz => HMv.out W D0 D1 D2 d0 d1 d2 z nm hW hz HI.out.fit)
        rw [moveE_R HI.out.ok] at HM
        by_cases hm : moveR z nm = 0
        case neg =>
          have HKn := Lib.hid (HK.out.trans (ordGo_no hm))
          clear HK HD
          generalize moveR z nm = er at *
          generalize z.mv (atB z nm).toNat = z' at *
          go_wp2_with fail
          refine (HM.out _ bl_ (HI.out.yd _ (Ex.refl _ _))).mono ?_
          rintro e w3 (⟨h0, _⟩ | ⟨h0, rfl, hb3⟩)
          · exact absurd h0 hm
          have hs3 := hb3.size
          have hbw3 := Lib.hid (bl_ : Below w.heap.size w w3)
          clear hb3
          have hb3 := hbw3.out
          clear HI HGk
          go_wp2_with fail
          go_ret
          exact ⟨by rw [HKn.out]; rfl, bl_⟩
        case pos =>
          have HKn := Lib.hid (HK.out.trans (ordGo_ok hm))
          have hi' := moveR_ok HI.out.ok hm
          have hf' := fits_mv HI.out.fit (atB z nm).toNat
          have hsc' : 0 ≤ secAtB (z.mv (atB z nm).toNat) gs := HI.out.sec
          have HG' := Lib.hid (And.intro hi' (And.intro hf' hsc'))
          clear HK HD hi' hf' hsc'
          rw [hm] at HM
          generalize z.mv (atB z nm).toNat = z' at *
          go_wp2_with fail
          refine (HM.out _ bl_ (HI.out.yd _ (Ex.refl _ _))).mono ?_
          rintro e w3 (⟨_, E0, E1, E2, e0, e1, e2, rfl, hyd, hb3⟩ | ⟨h0, _⟩)
          case inr => exact absurd rfl h0
          have hs3 := hb3.size
          have HQ8 := Lib.hid (HI.out.blk.kept hb3)
          have HQG := Lib.hid (HGk.out.kept hb3)
          have c8 := HQ8.out.cell
          have f8 := HQ8.out.frozen
          have l8 := HQ8.out.lt
          have HE := Lib.hid (hyd [w2.heap.size + 1] (fun x hx => by simp at hx; omega))
          have HB3 := Lib.hid (bl_ : Below w.heap.size w w3)
          clear hyd hb3 cZ lZ cG lG
          have hb3 := HB3.out
          go_wp2_with fail
          refine ⟨⟨k + 1, z', E0, E1, E2, e0, e1, e2, by simp, by omega, Lib.hid HKn.out, ⟨(HQ8.out.set3 _ _ _).alloc _, HE.out.ex xs_, HG'.out.1, HG'.out.2.1, HG'.out.2.2, (below_set3 hb3 (by omega) _ _ _).alloc (by simp; omega) _⟩, (HQG.out.far3 (by omega) _ _ _).alloc _⟩, ?_⟩
          simp only [intOf]
          omega
      · have hkn' : k = n := by omega
        subst hkn'
        have HKn := Lib.hid (HK.out.trans (by rw [List.drop_of_length_le (by rw [HLL.out]; exact Nat.le_refl _), ordGo_nil]))
        have HH := Lib.hid (fun W hz => HHo.out W D0 D1 D2 d0 d1 d2 z hz HI.out.fit HI.out.ok HI.out.sec)
        generalize holdsB gk gs z = q at *
        go_wp2_with fail
        refine (HH.out _ (HI.out.yd _ (Ex.refl _ _))).mono ?_
        (rintro e w3 ⟨rfl, hb3⟩; have hs3 := hb3.size; (try simp at hs3))
        have HB3 := Lib.hid (bl_ : Below w.heap.size w w3)
        go_wp2_with fail
        refine (HWw.out _ _).mono ?_
        rintro e w4 ⟨rfl, rfl⟩
        go_wp2_with fail
        go_ret
        exact ⟨by rw [HKn.out]; rfl, HB3.out⟩
end Go.Proofs.YtphlojgmfkgeiaaGreatDoor
