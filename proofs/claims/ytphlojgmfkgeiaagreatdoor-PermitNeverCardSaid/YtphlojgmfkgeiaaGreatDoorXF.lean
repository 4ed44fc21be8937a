/- Play. -/
import Derived.Test.YtphlojgmfkgeiaaGreatDoorXE
namespace Go.Proofs.YtphlojgmfkgeiaaGreatDoor
open Go.RowKit Go.Sort Go.Shelf
set_option linter.unusedSimpArgs false
set_option linter.unusedVariables false
attribute [local go_sem] cell_if frozen_if grow_cell
theorem ac_at {w : World} {B n : Nat} {A : Option Addr} {l : List Ac} (h : Reads w B 3 A n (acs l)) : l.length = n ∧ ∀ k, (hk : k < l.length) → ∃ b o, A = some ⟨b, o, none⟩ ∧ b < B ∧ w.cell? ⟨b, o + k * 3, none⟩ = some (.string l[k].k) ∧ w.cell? ⟨b, o + k * 3 + 1, none⟩ = some (.string l[k].n) ∧ w.cell? ⟨b, o + k * 3 + 2, none⟩ = some (.string l[k].s) := by
  obtain ⟨h1, h2⟩ := flat_at (f := Ac.cells) (fun _ => rfl) (by decide) h
  refine ⟨h1, fun k hk => ?_⟩
  obtain ⟨b, o, e, hb, hc⟩ := h2 k hk
  exact ⟨b, o, e, hb, hc 0 _ rfl, hc 1 _ rfl, hc 2 _ rfl⟩
/-- What stays while acts are played. -/
structure PlI (w : World) (b8 bz : Nat) (PT : TypeId) (z : Yd) (D0 D1 D2 : Option Addr) (d0 d1 d2 : Nat) (W : World) : Prop where
  blk : Blk W b8 PT #[.slice D0 z.s.length d0, .slice D1 z.w.length d1, .slice D2 z.p.length d2]
  yd : YdR [b8, bz] W z D0 D1 D2 z.s.length z.w.length z.p.length
  ok : yardE z = 0
  fit : Fits z
  low : Below w.heap.size w W
theorem PlI.kept {w : World} {b8 bz : Nat} {PT : TypeId} {z : Yd} {D0 D1 D2 : Option Addr} {d0 d1 d2 : Nat} {W W' : World} (h : PlI w b8 bz PT z D0 D1 D2 d0 d1 d2 W) (hb : Below W.heap.size W W') : PlI w b8 bz PT z D0 D1 D2 d0 d1 d2 W' :=
  ⟨h.blk.kept hb, h.yd.ex (Ex.of_below hb), h.ok, h.fit, h.low.trans (hb.mono h.low.size)⟩
/-- A yard that stays, a number and an error. -/
def PlU (w : World) (r : Yd × Nat × Int) (e : Ending) (w' : World) : Prop :=
  ∃ A0 A1 A2 c0 c1 c2, e = .returned (.tuple #[.agg #[.slice A0 r.1.s.length c0, .slice A1 r.1.w.length c1, .slice A2 r.1.p.length c2], .int .i64 (r.2.1 : Int), .int .i64 r.2.2]) ∧ YdAt w' w'.heap.size A0 A1 A2 r.1.s.length r.1.w.length r.1.p.length r.1 ∧ Below w.heap.size w w'
theorem nil_of {z : Yd} (h : z = nilY) : z.s.length = 0 ∧ z.w.length = 0 ∧ z.p.length = 0 := by subst h; exact ⟨rfl, rfl, rfl⟩
set_option maxRecDepth 100000 in
set_option maxHeartbeats 4000000 in
theorem Play_any (B : Nat) (A0 A1 A2 : Option Addr) (n0 n1 n2 c0 c1 c2 : Nat) (y : Yd) (w : World) (hY : YdAt w B A0 A1 A2 n0 n1 n2 y) (hB : B ≤ w.heap.size) (hT : Tabs w) (hF : Fits y) (A : Option Addr) (n c : Nat) (l : List Ac) (hr : Reads w w.heap.size 3 A n (acs l)) (hn : n ≤ 100000) (hs : ∀ x ∈ l, x.n.size ≤ maxLen ∧ x.s.size ≤ maxLen) :
    Calls Tryz.prog 68 #[.agg #[.slice A0 n0 c0, .slice A1 n1 c1, .slice A2 n2 c2], .slice A n c] w (PlU w (playR y l)) := by
  have hl0 := (sec_at hY.hs).1
  have hl1 := (sw_at hY.hw).1
  have hl2 := (pm_at hY.hp).1
  obtain ⟨hll, hat⟩ := ac_at hr
  have H1 := Lib.hid (fun W (hW : Below w.heap.size w W) => CheckYard_any B A0 A1 A2 n0 n1 n2 c0 c1 c2 y W (hY.below (hW.mono hB)) (by have := hW.size; omega) (hT.kept hW) hF)
  have HW1 := Lib.hid (fun W => pwhen_any (decide (64 < (n : Int))) 5 W)
  have HOw := Lib.hid (fun W (hW : Below w.heap.size w W) => owned_any B A0 A1 A2 n0 n1 n2 c0 c1 c2 y W (hY.below (hW.mono hB)) (by have := hW.size; omega) (by have := hF.s9; omega) (by have := hF.w9; omega) (by have := hF.p9; omega))
  have HAc := Lib.hid (fun W D0 D1 D2 d0 d1 d2 z x (hW : Below w.heap.size w W) (hz : YdAt W W.heap.size D0 D1 D2 z.s.length z.w.length z.p.length z) (hf : Fits z) (hx : x.n.size ≤ maxLen ∧ x.s.size ≤ maxLen) => act_any W.heap.size D0 D1 D2 z.s.length z.w.length z.p.length d0 d1 d2 z W hz (Nat.le_refl _) (hT.kept hW) hf x hx.1 hx.2)
  have HAT := Lib.hid hat
  have HLL := Lib.hid hll
  have HSz := Lib.hid hs
  have HPH : Hid (plHead y l.length = firstE [yardE y, whenE (decide (64 < (n : Int))) 5]) := by show _ = _; rw [first2_or, plHead, hll]
  have HPR : Hid (playR y l = if plHead y l.length = 0 then playGo y 0 l else (nilY, 0, plHead y l.length)) := Lib.hid rfl
  by_cases hh : plHead y l.length = 0
  case neg =>
    rw [HPR.out, if_neg hh]
    clear hY hT hF hr hll hat hs HPR HOw HAc HSz HAT
    generalize plHead y l.length = ee at *
    have HEQ := Lib.hid HPH.out.symm
    clear HPH
    generalize yardE y = a1 at *
    generalize whenE (decide (64 < (n : Int))) 5 = a2 at *
    go_enter Tryz.func68, Tryz.ntmps68
    go_wp2_with fail
    refine (H1.out _ bl_).mono ?_
    (rintro e w2 ⟨rfl, hb2⟩; have hs2 := hb2.size; (try simp at hs2))
    obtain ⟨hc2, hf2⟩ := ifs_of hb2; have hs2 := hb2.size; (try simp at hs2)
    go_wp2_with fail
    refine (HW1.out _).mono ?_
    rintro e w3 ⟨rfl, rfl⟩
    go_wp2_with fail
    refine (pfirst_any (w2.heap.size + 1) _ 2 2 [a1, a2] _ (by simpa using Reads.new (size := 1) w2 (([a1, a2] : List Int).map (.int .i64)).toArray 34 2 rfl : Reads (w2.alloc (.cells (([a1, a2] : List Int).map (.int .i64)).toArray 34)) (w2.heap.size + 1) 1 (some ⟨w2.heap.size, 0, none⟩) 2 (([a1, a2] : List Int).map (.int .i64))) (by unfold maxLen; decide)).mono ?_
    rintro e w5 ⟨rfl, rfl⟩
    rw [HEQ.out]
    go_wp2_with fail
    refine bodyPost_ret (v := .tuple #[zeroY, .int .i64 0, .int .i64 ee]) ?_ rfl ⟨none, none, none, 0, 0, 0, rfl, nil_yd _ _, bl_⟩
    have ck := (bk_ : Blk w2 (w.heap.size + 1) 41 #[.slice none 0 0, .slice none 0 0, .slice none 0 0])
    have ck := ((((ck.alloc (.cells #[.int .i64 a1, .int .i64 a2] 34)).set_ 0 (.slice none 0 0)).set_ 1 (.slice none 0 0)).set_ 2 (.slice none 0 0)).cell
    simp [results, Tryz.results68, go_sem, zeroY, ck]
  case pos =>
    rw [HPR.out, if_pos hh]
    have hz1 : yardE y = 0 ∧ whenE (decide (64 < (n : Int))) 5 = 0 := first2_zeroV (by rw [← HPH.out]; exact hh)
    rw [hz1.1] at H1
    rw [hz1.2] at HW1
    have HG0 := Lib.hid (And.intro hz1.1 hF)
    have HLs := Lib.hid (And.intro hl0 (And.intro hl1 hl2))
    clear hY hT hF hr hat hs HPR HPH hh hz1 hll hl0 hl1 hl2
    go_enter Tryz.func68, Tryz.ntmps68
    go_wp2_with fail
    refine (H1.out _ bl_).mono ?_
    (rintro e w2 ⟨rfl, hb2⟩; have hs2 := hb2.size; (try simp at hs2))
    have BZ2 := Lib.hid (bk_ : Blk w2 (w.heap.size + 1) 41 #[.slice none 0 0, .slice none 0 0, .slice none 0 0])
    have BY2 := Lib.hid (bk_ : Blk w2 w.heap.size 41 #[.slice A0 n0 c0, .slice A1 n1 c1, .slice A2 n2 c2])
    have HB2 := Lib.hid (bl_ : Below w.heap.size w w2)
    clear hb2
    have hb2 := HB2.out
    have cY := BY2.out.cell
    have lY := BY2.out.lt
    go_wp2_with fail
    refine (HW1.out _).mono ?_
    rintro e w3 ⟨rfl, rfl⟩
    go_wp2_with fail
    refine (pfirst_any (w2.heap.size + 1) _ 2 2 [0, 0] _ (by simpa using Reads.new (size := 1) w2 (([0, 0] : List Int).map (.int .i64)).toArray 34 2 rfl : Reads (w2.alloc (.cells (([0, 0] : List Int).map (.int .i64)).toArray 34)) (w2.heap.size + 1) 1 (some ⟨w2.heap.size, 0, none⟩) 2 (([0, 0] : List Int).map (.int .i64))) (by unfold maxLen; decide)).mono ?_
    rintro e w5 ⟨rfl, rfl⟩
    rw [show firstE [0, 0] = 0 from rfl]
    go_wp2_with fail
    refine (HOw.out _ bl_).mono ?_
    rintro e w6 ⟨D0, D2, d0, d2, g, rfl, hO, hb6⟩
    have hs6 := hb6.size
    (try simp at hs6)
    have HB6 := Lib.hid (bl_ : Below w.heap.size w w6)
    have BZ6 := Lib.hid ((BZ2.out.alloc (.cells #[.int .i64 0, .int .i64 0] 34)).kept hb6)
    have HO6 := Lib.hid (fun X hX => YdR.of_ownX (X := X) hO hX)
    clear hb6 hO BY2 cY lY BZ2 HB2 hb2
    go_wp2_with fail
    go_loopw [29] (fun i wr => ∃ (k : Nat) (z : Yd) (D0 D1 D2 : Option Addr) (d0 d1 d2 : Nat), i = .int .i64 k ∧ k ≤ n ∧ Hid (playGo y 0 l = playGo z k (l.drop k)) ∧ PlI w w6.heap.size (w.heap.size + 1) 41 z D0 D1 D2 d0 d1 d2 wr ∧ Blk wr (w.heap.size + 1) 41 #[.slice none 0 0, .slice none 0 0, .slice none 0 0]) (fun i _ => n - (intOf i).toNat)
    case atStart =>
      have bz := BZ6.out
      have hb6 := HB6.out
      have hx : Ex [w6.heap.size, w.heap.size + 1] w6 (w6.alloc (.cells #[.slice D0 y.s.length d0, .slice (some ⟨g, 0, none⟩) y.w.length y.w.length, .slice D2 y.p.length d2] 41)) := (Ex.refl _ _).alloc _
      exact ⟨0, y, D0, some ⟨g, 0, none⟩, D2, d0, y.w.length, d2, rfl, by omega, Lib.hid rfl, ⟨Blk.new _ _ _, (HO6.out [w6.heap.size, w.heap.size + 1] (fun x hx => by simp at hx; rcases hx with rfl | rfl <;> (first | omega | (simp; omega) | (simp; done)))).ex hx, HG0.out.1, HG0.out.2, hb6.alloc hb6.size _⟩, bz.alloc _⟩
    case round =>
      clear BZ6 HB6 HO6 HG0 H1 HW1 HOw
      obtain ⟨k, z, D0, D1, D2, d0, d1, d2, rfl, hkn, hV, hI, hZ⟩ := hrel
      have hb := hI.low
      have hsr := hb.size
      have cZ := hI.blk.cell
      have lZ := hI.blk.lt
      have HI := Lib.hid hI
      have HZk := Lib.hid hZ
      have HK := Lib.hid hV.out
      clear hI hZ hV
      by_cases hlt : k < n
      · have hkl : k < l.length := by rw [HLL.out]; exact hlt
        obtain ⟨b, o, eA, hbb, z0, z1, z2⟩ := HAT.out k hkl
        have kb : ∀ b i, b < w.heap.size → wr.cell? ⟨b, i, none⟩ = w.cell? ⟨b, i, none⟩ := fun b i h => hb.cell (p := ⟨b, i, none⟩) (by simp; omega)
        rw [← kb _ _ hbb] at z0 z1 z2
        have hbw : b < wr.heap.size := by omega
        clear kb
        subst eA
        have HD := Lib.hid (List.drop_eq_getElem_cons hkl)
        rw [HD.out] at HK
        have hsz := HSz.out _ (List.getElem_mem hkl)
        generalize l[k] = x at *
        have HM := Lib.hid (fun W hW hz => HAc.out W D0 D1 D2 d0 d1 d2 z x hW hz HI.out.fit hsz)
        have HFx := Lib.hid (fun h => act_fits (x := x) HI.out.fit hsz.1 h)
        clear hsz
        by_cases hm : actE z x = 0
        case neg =>
          have HKn := Lib.hid (HK.out.trans (playGo_no hm _ _))
          rw [okY_no hm] at HM
          clear HK HD HFx
          generalize actE z x = er at *
          obtain ⟨xk, xn, xs⟩ := x
          dsimp only at z0 z1 z2
          go_wp2_with fail
          refine (HM.out _ bl_ (HI.out.yd _ xs_)).mono ?_
          rintro e w3 ⟨E0, E1, E2, e0, e1, e2, rfl, _, hb3⟩
          have hs3 := hb3.size
          (try simp at hs3)
          have hbw3 := Lib.hid (bl_ : Below w.heap.size w w3)
          have bz := Lib.hid (show Blk w3 (w.heap.size + 1) 41 #[.slice none 0 0, .slice none 0 0, .slice none 0 0] from (HZk.out.alloc _).kept hb3)
          clear hb3
          have hb3 := hbw3.out
          clear HI HZk
          have cz := bz.out.cell
          have fz := bz.out.frozen
          have lz := bz.out.lt
          go_wp2_with fail
          refine bodyPost_ret (v := .tuple #[zeroY, .int .i64 k, .int .i64 er]) ?_ rfl ?_
          · have ck := ((bz.out.set3 (.slice none 0 0) (.slice none 0 0) (.slice none 0 0)).alloc (.cells #[.slice E0 nilY.s.length e0, .slice E1 nilY.w.length e1, .slice E2 nilY.p.length e2] 41)).cell
            simp [results, Tryz.results68, go_sem, zeroY, ck]
          · rw [HKn.out]
            exact ⟨none, none, none, 0, 0, 0, rfl, nil_yd _ _, bl_⟩
        case pos =>
          have HKn := Lib.hid (HK.out.trans (playGo_ok hm _ _))
          have HG' := Lib.hid (And.intro (act_ok hm) (HFx.out hm))
          rw [hm, okY_ok] at HM
          clear HK HD HFx hm
          generalize actY z x = z' at *
          obtain ⟨xk, xn, xs⟩ := x
          dsimp only at z0 z1 z2
          go_wp2_with fail
          refine (HM.out _ bl_ (HI.out.yd _ xs_)).mono ?_
          rintro e w3 ⟨E0, E1, E2, e0, e1, e2, rfl, hyd, hb3⟩
          have hs3 := hb3.size
          (try simp at hs3)
          have HQ8 := Lib.hid ((HI.out.blk.alloc (.cells #[.string xk, .string xn, .string xs] 170)).kept hb3)
          have HQZ := Lib.hid ((HZk.out.alloc (.cells #[.string xk, .string xn, .string xs] 170)).kept hb3)
          have c8 := HQ8.out.cell
          have f8 := HQ8.out.frozen
          have l8 := HQ8.out.lt
          have HE := Lib.hid (hyd [w6.heap.size, w.heap.size + 1] (fun x hx => by simp at hx; left; simp; omega))
          have HB3 := Lib.hid (bl_ : Below w.heap.size w w3)
          clear hyd hb3 cZ lZ
          have hb3 := HB3.out
          go_wp2_with fail
          refine ⟨⟨k + 1, z', E0, E1, E2, e0, e1, e2, by simp, by omega, Lib.hid HKn.out, ⟨(HQ8.out.set3 _ _ _).alloc _, HE.out.ex xs_, HG'.out.1, HG'.out.2, (below_set3 hb3 (by omega) _ _ _).alloc (by simp; omega) _⟩, (HQZ.out.far3 (by omega) _ _ _).alloc _⟩, ?_⟩
          simp only [intOf]
          omega
      · have hkn' : k = n := by omega
        subst hkn'
        have HKn := Lib.hid (HK.out.trans (by rw [List.drop_of_length_le (by rw [HLL.out]; exact Nat.le_refl _), playGo_nil]))
        have cz := HZk.out.cell
        have fz := HZk.out.frozen
        have lz := HZk.out.lt
        go_wp2_with fail
        refine bodyPost_ret (v := .tuple #[.agg #[.slice D0 z.s.length d0, .slice D1 z.w.length d1, .slice D2 z.p.length d2], .int .i64 0, .int .i64 0]) ?_ rfl ?_
        · have ck := (HZk.out.set3 (.slice D0 z.s.length d0) (.slice D1 z.w.length d1) (.slice D2 z.p.length d2)).cell
          simp [results, Tryz.results68, go_sem, ck]
        · rw [HKn.out]
          exact ⟨D0, D1, D2, d0, d1, d2, rfl, HI.out.yd _ (Ex.set_in (.inl (by simp)) (Ex.set_in (.inl (by simp)) (Ex.set_in (.inl (by simp)) (Ex.refl _ _) _) _) _), below_set3 hb (by omega) _ _ _⟩
end Go.Proofs.YtphlojgmfkgeiaaGreatDoor
