/- Acts: one act. -/
import Derived.Test.YtphlojgmfkgeiaaGreatDoorXB
import Derived.Test.YtphlojgmfkgeiaaGreatDoorAP
namespace Go.Proofs.YtphlojgmfkgeiaaGreatDoor
open Go.RowKit Go.Sort Go.Shelf
set_option linter.unusedSimpArgs false
set_option linter.unusedVariables false
attribute [local go_sem] cell_if frozen_if grow_cell
/-- A yard that stays, still stays behind a store into a block that is older than it. -/
theorem stay_set3 {w wc w1 : World} {z : Yd} {A0 A1 A2 : Option Addr} {n0 n1 n2 b : Nat} (h : ∀ X : List Nat, (∀ x ∈ X, x < wc.heap.size ∨ w1.heap.size ≤ x) → YdR X w1 z A0 A1 A2 n0 n1 n2) (hw : w.heap.size ≤ wc.heap.size) (hb : b < wc.heap.size) (u0 u1 u2 : Value) :
    ∀ X : List Nat, (∀ x ∈ X, x < w.heap.size ∨ (((w1.setCell ⟨b, 0, none⟩ u0).setCell ⟨b, 1, none⟩ u1).setCell ⟨b, 2, none⟩ u2).heap.size ≤ x) → YdR X (((w1.setCell ⟨b, 0, none⟩ u0).setCell ⟨b, 1, none⟩ u1).setCell ⟨b, 2, none⟩ u2) z A0 A1 A2 n0 n1 n2 := by
  intro X hX
  have hx : Ex (b :: X) w1 (((w1.setCell ⟨b, 0, none⟩ u0).setCell ⟨b, 1, none⟩ u1).setCell ⟨b, 2, none⟩ u2) := Ex.set_in (.inl (by simp)) (Ex.set_in (.inl (by simp)) (Ex.set_in (.inl (by simp)) (Ex.refl _ _) _) _) _
  refine (h (b :: X) (fun x hx => ?_)).turn hx (fun x hx => .inl (by simp [hx]))
  rcases List.mem_cons.1 hx with rfl | hx
  · exact .inl hb
  · rcases hX x hx with h1 | h1
    · exact .inl (by omega)
    · exact .inr (by simpa [World.setCell] using h1)
def Ac.val (x : Ac) : Value := .agg #[.string x.k, .string x.n, .string x.s]
theorem eq_comm_nil (b : ByteArray) : (b.toList == []) = ([] == b.toList) := Bool.beq_comm
set_option maxRecDepth 100000 in
set_option maxHeartbeats 2000000 in
theorem act_any (B : Nat) (A0 A1 A2 : Option Addr) (n0 n1 n2 c0 c1 c2 : Nat) (y : Yd) (w : World) (hY : YdAt w B A0 A1 A2 n0 n1 n2 y) (hB : B ≤ w.heap.size) (hT : Tabs w) (hF : Fits y) (x : Ac) (hxn : x.n.size ≤ maxLen) (hxs : x.s.size ≤ maxLen) : Calls Tryz.prog 142 #[.agg #[.slice A0 n0 c0, .slice A1 n1 c1, .slice A2 n2 c2], .agg #[.string x.k, .string x.n, .string x.s]] w (YdU w (actE y x) (okY (actE y x) (actY y x))) := by
  obtain ⟨xk, xn, xs⟩ := x
  dsimp only at hxn hxs ⊢
  have HG := Lib.hid (fun W (hW : Below w.heap.size w W) => (Grant_any B A0 A1 A2 n0 n1 n2 c0 c1 c2 y W (hY.below (hW.mono hB)) (by have := hW.size; omega) (hT.kept hW) hF xn xs hxn hxs).mono fun _ _ h => (YdERes.mv h).u)
  have HM := Lib.hid (fun W (hW : Below w.heap.size w W) => (Move_any B A0 A1 A2 n0 n1 n2 c0 c1 c2 y W (hY.below (hW.mono hB)) (by have := hW.size; omega) (hT.kept hW) hF xn).mono fun _ _ h => (YdERes.mv h).u)
  have HR := Lib.hid (fun W (hW : Below w.heap.size w W) => (Return_any B A0 A1 A2 n0 n1 n2 c0 c1 c2 y W (hY.below (hW.mono hB)) (by have := hW.size; omega) (hT.kept hW) hF xn).mono fun _ _ h => MvR.u h)
  clear hY hT hF
  cases k1 : (xk.toList == [103, 114, 97, 110, 116]) with
  | true =>
    have HE : Hid (actE y ⟨xk, xn, xs⟩ = grantE y xn xs ∧ actY y ⟨xk, xn, xs⟩ = grantY y xn xs) := ⟨if_pos k1, if_pos k1⟩
    rw [HE.out.1, HE.out.2]
    clear HE HM HR
    generalize grantE y xn xs = ee at *
    generalize okY ee (grantY y xn xs) = z at *
    go_enter Tryz.func142, Tryz.ntmps142
    go_wp2_with fail
    refine (HG.out _ bl_).mono ?_
    rintro e w1 ⟨A0', A1', A2', c0', c1', c2', rfl, hyd, hb1⟩
    have hs1 := hb1.size
    (try simp at hs1)
    have bz := (bk_ : Blk w1 (w.heap.size + 1 + 1) 41 #[.slice none 0 0, .slice none 0 0, .slice none 0 0])
    have hb := (bl_ : Below w.heap.size w w1)
    have hbl := below_set3 hb (show w.heap.size ≤ w.heap.size + 1 + 1 by omega) (.slice A0' z.s.length c0') (.slice A1' z.w.length c1') (.slice A2' z.p.length c2')
    have ck := (bz.set3 (.slice A0' z.s.length c0') (.slice A1' z.w.length c1') (.slice A2' z.p.length c2')).cell
    have hst := stay_set3 (w := w) (b := w.heap.size + 1 + 1) hyd (by simp; omega) (by simp) (.slice A0' z.s.length c0') (.slice A1' z.w.length c1') (.slice A2' z.p.length c2')
    have HO6 := Lib.hid (And.intro hst hbl)
    have cz := bz.cell
    have fz := bz.frozen
    have lz := bz.lt
    clear hst hbl hyd hb bz hb1
    go_wp2_with fail
    refine bodyPost_ret (v := .tuple #[.agg #[.slice A0' z.s.length c0', .slice A1' z.w.length c1', .slice A2' z.p.length c2'], .int .i64 ee]) ?_ rfl ⟨A0', A1', A2', c0', c1', c2', rfl, HO6.out.1, HO6.out.2⟩
    simp [results, Tryz.results142, go_sem, ck]
  | false =>
    have k1' : (xk.toList == grantW) = false := k1
    cases k2 : (xk.toList == [109, 111, 118, 101]) with
    | true =>
      have k3 : (xk.toList == [114, 101, 116, 117, 114, 110]) = false := by rw [eq_of_beq k2]; rfl
      cases k4 : (xs.toList == []) with
      | true =>
        have HE : Hid (actE y ⟨xk, xn, xs⟩ = moveE y xn ∧ actY y ⟨xk, xn, xs⟩ = y.mv (atB y xn).toNat) := by
          refine ⟨?_, ?_⟩
          · unfold actE; dsimp only
            rw [if_neg (by rw [k1']; decide), if_pos (by rw [show (xk.toList == moveW) = true from k2]; rfl), if_neg (by rw [k4]; decide), if_pos (show (xk.toList == moveW) = true from k2)]
          · unfold actY; dsimp only
            rw [if_neg (by rw [k1']; decide), if_pos (show (xk.toList == moveW) = true from k2)]
        rw [HE.out.1, HE.out.2]
        clear HE HG HR
        generalize moveE y xn = ee at *
        generalize okY ee (y.mv (atB y xn).toNat) = z at *
        go_enter Tryz.func142, Tryz.ntmps142
        go_wp2_with fail
        refine (HM.out _ bl_).mono ?_
        rintro e w1 ⟨A0', A1', A2', c0', c1', c2', rfl, hyd, hb1⟩
        have hs1 := hb1.size
        (try simp at hs1)
        have bz := (bk_ : Blk w1 (w.heap.size + 1 + 1) 41 #[.slice none 0 0, .slice none 0 0, .slice none 0 0])
        have hb := (bl_ : Below w.heap.size w w1)
        have hbl := below_set3 hb (show w.heap.size ≤ w.heap.size + 1 + 1 by omega) (.slice A0' z.s.length c0') (.slice A1' z.w.length c1') (.slice A2' z.p.length c2')
        have ck := (bz.set3 (.slice A0' z.s.length c0') (.slice A1' z.w.length c1') (.slice A2' z.p.length c2')).cell
        have hst := stay_set3 (w := w) (b := w.heap.size + 1 + 1) hyd (by simp; omega) (by simp) (.slice A0' z.s.length c0') (.slice A1' z.w.length c1') (.slice A2' z.p.length c2')
        have HO6 := Lib.hid (And.intro hst hbl)
        have cz := bz.cell
        have fz := bz.frozen
        have lz := bz.lt
        clear hst hbl hyd hb bz hb1
        go_wp2_with fail
        refine bodyPost_ret (v := .tuple #[.agg #[.slice A0' z.s.length c0', .slice A1' z.w.length c1', .slice A2' z.p.length c2'], .int .i64 ee]) ?_ rfl ⟨A0', A1', A2', c0', c1', c2', rfl, HO6.out.1, HO6.out.2⟩
        simp [results, Tryz.results142, go_sem, ck]
      | false =>
        have HE : Hid (actE y ⟨xk, xn, xs⟩ = 1) := by
          show _ = _
          unfold actE; dsimp only
          rw [if_neg (by rw [k1']; decide), if_pos (by rw [show (xk.toList == moveW) = true from k2]; rfl), if_pos (by rw [k4]; rfl)]
        rw [HE.out, okY_no (by decide)]
        clear HE HG HR HM
        go_enter Tryz.func142, Tryz.ntmps142
        go_wp2_with fail
        refine bodyPost_ret (v := .tuple #[zeroY, .int .i64 1]) ?_ rfl ⟨none, none, none, 0, 0, 0, rfl, fun X hX W' h' => nil_yd _ _, bl_⟩
        simp [results, Tryz.results142, go_sem, zeroY]
    | false =>
      cases k3 : (xk.toList == [114, 101, 116, 117, 114, 110]) with
      | true =>
        cases k4 : (xs.toList == []) with
        | true =>
          have HE : Hid (actE y ⟨xk, xn, xs⟩ = retE y xn ∧ actY y ⟨xk, xn, xs⟩ = retY y xn) := by
            refine ⟨?_, ?_⟩
            · unfold actE; dsimp only
              rw [if_neg (by rw [k1']; decide), if_pos (by rw [show (xk.toList == returnW) = true from k3, Bool.or_true]), if_neg (by rw [k4]; decide), if_neg (by rw [show (xk.toList == moveW) = false from k2]; decide)]
            · unfold actY; dsimp only
              rw [if_neg (by rw [k1']; decide), if_neg (by rw [show (xk.toList == moveW) = false from k2]; decide)]
          rw [HE.out.1, HE.out.2]
          clear HE HG HM
          generalize retE y xn = ee at *
          generalize okY ee (retY y xn) = z at *
          go_enter Tryz.func142, Tryz.ntmps142
          go_wp2_with fail
          refine (HR.out _ bl_).mono ?_
          rintro e w1 ⟨A0', A1', A2', c0', c1', c2', rfl, hyd, hb1⟩
          have hs1 := hb1.size
          (try simp at hs1)
          have bz := (bk_ : Blk w1 (w.heap.size + 1 + 1) 41 #[.slice none 0 0, .slice none 0 0, .slice none 0 0])
          have hb := (bl_ : Below w.heap.size w w1)
          have hbl := below_set3 hb (show w.heap.size ≤ w.heap.size + 1 + 1 by omega) (.slice A0' z.s.length c0') (.slice A1' z.w.length c1') (.slice A2' z.p.length c2')
          have ck := (bz.set3 (.slice A0' z.s.length c0') (.slice A1' z.w.length c1') (.slice A2' z.p.length c2')).cell
          have hst := stay_set3 (w := w) (b := w.heap.size + 1 + 1) hyd (by simp; omega) (by simp) (.slice A0' z.s.length c0') (.slice A1' z.w.length c1') (.slice A2' z.p.length c2')
          have HO6 := Lib.hid (And.intro hst hbl)
          have cz := bz.cell
          have fz := bz.frozen
          have lz := bz.lt
          clear hst hbl hyd hb bz hb1
          go_wp2_with fail
          refine bodyPost_ret (v := .tuple #[.agg #[.slice A0' z.s.length c0', .slice A1' z.w.length c1', .slice A2' z.p.length c2'], .int .i64 ee]) ?_ rfl ⟨A0', A1', A2', c0', c1', c2', rfl, HO6.out.1, HO6.out.2⟩
          simp [results, Tryz.results142, go_sem, ck]
        | false =>
          have HE : Hid (actE y ⟨xk, xn, xs⟩ = 1) := by
            show _ = _
            unfold actE; dsimp only
            rw [if_neg (by rw [k1']; decide), if_pos (by rw [show (xk.toList == returnW) = true from k3, Bool.or_true]), if_pos (by rw [k4]; rfl)]
          rw [HE.out, okY_no (by decide)]
          clear HE HG HR HM
          go_enter Tryz.func142, Tryz.ntmps142
          go_wp2_with fail
          refine bodyPost_ret (v := .tuple #[zeroY, .int .i64 1]) ?_ rfl ⟨none, none, none, 0, 0, 0, rfl, fun X hX W' h' => nil_yd _ _, bl_⟩
          simp [results, Tryz.results142, go_sem, zeroY]
      | false =>
        have HE : Hid (actE y ⟨xk, xn, xs⟩ = 13) := by
          show _ = _
          unfold actE; dsimp only
          rw [if_neg (by rw [k1']; decide), if_neg (by rw [show (xk.toList == moveW) = false from k2, show (xk.toList == returnW) = false from k3]; decide)]
        rw [HE.out, okY_no (by decide)]
        clear HE HG HR HM
        go_enter Tryz.func142, Tryz.ntmps142
        go_wp2_with fail
        refine bodyPost_ret (v := .tuple #[zeroY, .int .i64 13]) ?_ rfl ⟨none, none, none, 0, 0, 0, rfl, fun X hX W' h' => nil_yd _ _, bl_⟩
        simp [results, Tryz.results142, go_sem, zeroY]
end Go.Proofs.YtphlojgmfkgeiaaGreatDoor
