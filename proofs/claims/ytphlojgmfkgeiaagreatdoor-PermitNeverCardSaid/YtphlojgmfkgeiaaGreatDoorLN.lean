/- The law PermitNever. -/
import Derived.Test.YtphlojgmfkgeiaaGreatDoorNQ
import Derived.Test.YtphlojgmfkgeiaaGreatDoorLD
import Derived.Test.YtphlojgmfkgeiaaGreatDoorLS
import Derived.Test.YtphlojgmfkgeiaaGreatDoorXH
import Derived.Test.YtphlojgmfkgeiaaGreatDoorXB
import Derived.Test.YtphlojgmfkgeiaaGreatDoorSA
import Derived.Test.YtphlojgmfkgeiaaGreatDoorKn
import Derived.Deep.DeepCutAuto
import Derived.Deep.CutBlock
namespace Go.Proofs.YtphlojgmfkgeiaaGreatDoor
open Go.RowKit Go.Sort Go.Shelf
set_option linter.unusedSimpArgs false
set_option linter.unusedVariables false
attribute [local go_sem] cell_if frozen_if grow_cell
theorem elemAcR : Elem Tryz.prog 105 116 3 48 := elem_of Tryz.underlying105 (z := .agg #[.string ⟨#[]⟩, .string ⟨#[]⟩, .string ⟨#[]⟩]) (by kernel_rfl) rfl (by decide)
/-- What stays from act to act: the yard that there is now, and the acts that are done. -/
structure NvI (w : World) (y : Yd) (A0 A1 A2 : Option Addr) (n0 n1 n2 c0 c1 c2 : Nat) (b5 k : Nat) (z : Yd) (D0 D1 D2 : Option Addr) (d0 d1 d2 : Nat) (dl : List Ac) (v : Value) (gd : Nat) (W : World) : Prop where
  blk : Blk W b5 41 #[.slice D0 z.s.length d0, .slice D1 z.w.length d1, .slice D2 z.p.length d2]
  yd : YdR [b5, gd] W z D0 D1 D2 z.s.length z.w.length z.p.length
  row : W.ownsRow w.heap.size 116 3 v dl.length (acs dl)
  own : v.ownBlock = none ∨ v.ownBlock = some gd
  gl : gd < W.heap.size
  ok : yardE z = 0
  fit : Fits z
  ls : z.s.length = y.s.length
  lw : z.w.length = y.w.length
  play : playGo y 0 dl = (z, 0, 0)
  dk : dl.length ≤ k
  sz : ∀ x ∈ dl, x.n.size ≤ maxLen ∧ x.s.size ≤ maxLen
  box : Blk W w.heap.size 26 #[.slice A0 n0 c0, .slice A1 n1 c1, .slice A2 n2 c2]
  low : Below w.heap.size w W
theorem NvI.kept {w : World} {y : Yd} {A0 A1 A2 : Option Addr} {n0 n1 n2 c0 c1 c2 b5 k : Nat} {z : Yd} {D0 D1 D2 : Option Addr} {d0 d1 d2 : Nat} {dl : List Ac} {v : Value} {gd : Nat} {W W' : World} (h : NvI w y A0 A1 A2 n0 n1 n2 c0 c1 c2 b5 k z D0 D1 D2 d0 d1 d2 dl v gd W) (hb : Below W.heap.size W W') (k' : Nat) (hk : k ≤ k') : NvI w y A0 A1 A2 n0 n1 n2 c0 c1 c2 b5 k' z D0 D1 D2 d0 d1 d2 dl v gd W' :=
  ⟨h.blk.kept hb, h.yd.ex (Ex.of_below hb), own_kept h.row hb, h.own, Nat.lt_of_lt_of_le h.gl hb.size, h.ok, h.fit, h.ls, h.lw, h.play, Nat.le_trans h.dk hk, h.sz, h.box.kept hb, h.low.trans (hb.mono h.low.size)⟩
theorem stay_kept {a : Nat} {w1 w2 : World} {z : Yd} {A0 A1 A2 : Option Addr} {n0 n1 n2 : Nat} (h : ∀ X : List Nat, (∀ x ∈ X, x < a ∨ w1.heap.size ≤ x) → YdR X w1 z A0 A1 A2 n0 n1 n2) (hb : Below w1.heap.size w1 w2) : ∀ X : List Nat, (∀ x ∈ X, x < a ∨ w2.heap.size ≤ x) → YdR X w2 z A0 A1 A2 n0 n1 n2 := fun X hX =>
  (h X (fun x hx => (hX x hx).imp id (fun h => Nat.le_trans hb.size h))).ex (Ex.of_below hb)
theorem nil_stay (a : Nat) (W : World) : ∀ X : List Nat, (∀ x ∈ X, x < a ∨ W.heap.size ≤ x) → YdR X W nilY none none none nilY.s.length nilY.w.length nilY.p.length := fun _ _ _ _ => nil_yd _ _
theorem nv_move {z : Yd} {x : Ac} (h2 : (x.k.toList == moveW) = true) (h4 : (x.s.toList == []) = true) : nvE z x = moveE z x.n ∧ actY z x = z.mv (atB z x.n).toNat := by
  have h1 : (x.k.toList == grantW) = false := by rw [eq_of_beq h2]; rfl
  refine ⟨?_, ?_⟩
  · unfold nvE; rw [if_pos (by rw [h2, h4]; rfl)]
  · unfold actY; rw [if_neg (by rw [h1]; decide), if_pos h2]
theorem nv_grant {z : Yd} {x : Ac} (h1 : (x.k.toList == grantW) = true) : nvE z x = grantE z x.n x.s ∧ actY z x = grantY z x.n x.s := by
  have h2 : (x.k.toList == moveW) = false := by rw [eq_of_beq h1]; rfl
  refine ⟨?_, ?_⟩
  · unfold nvE; rw [if_neg (by rw [h2, Bool.false_and]; decide), if_pos h1]
  · unfold actY; rw [if_pos h1]
theorem nv_ret {z : Yd} {x : Ac} (h3 : (x.k.toList == returnW) = true) (h4 : (x.s.toList == []) = true) : nvE z x = retE z x.n ∧ actY z x = retY z x.n := by
  have h2 : (x.k.toList == moveW) = false := by rw [eq_of_beq h3]; rfl
  have h1 : (x.k.toList == grantW) = false := by rw [eq_of_beq h3]; rfl
  refine ⟨?_, ?_⟩
  · unfold nvE; rw [if_neg (by rw [h2, Bool.false_and]; decide), if_neg (by rw [h1]; decide), if_pos (by rw [h3, h4]; rfl)]
  · unfold actY; rw [if_neg (by rw [h1]; decide), if_neg (by rw [h2]; decide)]
theorem nv_none {z : Yd} {x : Ac} (h2 : (x.k.toList == moveW && x.s.toList == []) = false) (h1 : (x.k.toList == grantW) = false) (h3 : (x.k.toList == returnW && x.s.toList == []) = false) : nvE z x = 13 := by
  unfold nvE; rw [if_neg (by rw [h2]; decide), if_neg (by rw [h1]; decide), if_neg (by rw [h3]; decide)]
def len9N (y : Yd) : Prop := y.s.length ≤ 10 ∧ y.w.length ≤ 10 ∧ y.p.length ≤ 10
theorem fits_len {y : Yd} (h : Fits y) : len9N y := ⟨by have := h.s9; omega, by have := h.w9; omega, by have := h.p9; omega⟩
theorem chgUp_succ (a b : List Sw) (j : Nat) (h1 : j < a.length) (h2 : j < b.length) : chgUp a b (j + 1) = chgUp a b j + (if a[j].c == b[j].c then 0 else 1) := by
  show chgUp a b j + _ = _
  rw [List.getElem?_eq_getElem h1, List.getElem?_eq_getElem h2]
  simp
theorem chgUp_bd (a b : List Sw) : ∀ j, 0 ≤ chgUp a b j ∧ chgUp a b j ≤ j
  | 0 => ⟨Int.le_refl _, Int.le_refl _⟩
  | j + 1 => by
    have := chgUp_bd a b j
    unfold chgUp
    split <;> omega
theorem shortA_szN {l : List Ac} (h : shortA l = true) : (∀ x ∈ l, x.n.size ≤ maxLen ∧ x.s.size ≤ maxLen) ∧ l.length ≤ 65 := by
  unfold shortA szA at h
  rw [Bool.and_eq_true, List.all_eq_true] at h
  refine ⟨fun x hx => ?_, ?_⟩
  · have := h.1 x hx
    unfold pA at this
    simp only [Bool.and_eq_true, decide_eq_true_eq] at this
    unfold maxLen
    omega
  · have := h.2
    simp only [Bool.or_eq_true, decide_eq_true_eq] at this
    omega
theorem grown_set3 (w : World) (b : Nat) (u0 u1 u2 : Value) : w.grownBy (((w.setCell ⟨b, 0, none⟩ u0).setCell ⟨b, 1, none⟩ u1).setCell ⟨b, 2, none⟩ u2) (some b) :=
  have hx : Ex [b] w (((w.setCell ⟨b, 0, none⟩ u0).setCell ⟨b, 1, none⟩ u1).setCell ⟨b, 2, none⟩ u2) := Ex.set_in (.inl (by simp)) (Ex.set_in (.inl (by simp)) (Ex.set_in (.inl (by simp)) (Ex.refl _ _) _) _) _
  ⟨hx.os, hx.tape, hx.output, hx.size, fun k hk hn => hx.block k hk (fun h => hn (by simp at h; rw [h]))⟩
theorem acs_snoc (l : List Ac) (x : Ac) : acs (l ++ [x]) = acs l ++ [.string x.k, .string x.n, .string x.s] := by
  unfold acs
  rw [List.flatMap_append]
  simp [Ac.cells]
/-- The next act is done. -/
theorem NvI.next {w ws w7 : World} {y zz : Yd} {A0 A1 A2 E0 E1 E2 : Option Addr} {n0 n1 n2 c0 c1 c2 b5 k e0 e1 e2 m0 m1 a gd g' cap' : Nat} {dl : List Ac} {x : Ac} {v : Value}
    (hrow : ws.ownsRow w.heap.size 116 3 v dl.length (acs dl)) (hblk : Blk ws b5 41 #[.slice E0 m0 e0, .slice E1 m1 e1, .slice E2 zz.p.length e2])
    (hst : ∀ X : List Nat, (∀ x ∈ X, x < a ∨ ws.heap.size ≤ x) → YdR X ws zz E0 E1 E2 m0 m1 zz.p.length) (hown : v.ownBlock = none ∨ v.ownBlock = some gd) (hgd : gd < a) (hb5 : b5 < a)
    (hbox : Blk ws w.heap.size 26 #[.slice A0 n0 c0, .slice A1 n1 c1, .slice A2 n2 c2]) (hlow : Below w.heap.size w ws) (q0 : zz.s.length = m0) (q1 : zz.w.length = m1) (ok : yardE zz = 0) (fit : Fits zz) (ls : zz.s.length = y.s.length) (lw : zz.w.length = y.w.length)
    (hp : playGo y 0 (dl ++ [x]) = (zz, 0, 0)) (hdk : dl.length ≤ k) (hsz : ∀ x ∈ dl, x.n.size ≤ maxLen ∧ x.s.size ≤ maxLen) (hx : x.n.size ≤ maxLen ∧ x.s.size ≤ maxLen)
    (hown7 : Own w7 w.heap.size 116 3 g' (dl.length + 1) cap' (acs dl ++ [.string x.k, .string x.n, .string x.s])) (hg7 : ws.grownBy w7 v.ownBlock) (hat : v.ownBlock = some g' ∨ ws.heap.size ≤ g') :
    NvI w y A0 A1 A2 n0 n1 n2 c0 c1 c2 b5 (k + 1) zz E0 E1 E2 e0 e1 e2 (dl ++ [x]) (.slice (some ⟨g', 0, none⟩) (dl.length + 1) cap') g' w7 := by
  subst q0 q1
  have hx7 : Ex [b5, gd, g'] ws w7 := Ex.of_grown hg7 (fun r hr => by
    rcases hown with h | h
    · rw [h] at hr; cases hr
    · rw [h] at hr; cases hr; simp)
  have hY := hst [b5, gd, g'] (fun x hx => by
    simp at hx
    rcases hx with rfl | rfl | rfl
    · exact .inl hb5
    · exact .inl hgd
    · rcases hat with h | h
      · rcases hown with h' | h'
        · rw [h'] at h; cases h
        · rw [h'] at h; cases h; exact .inl hgd
      · exact .inr h)
  have hl : (dl ++ [x]).length = dl.length + 1 := by simp
  exact {
    blk := hblk.grown hg7 (fun h => row_own_neW hrow hblk (by decide) h.symm)
    yd := hY.turn hx7 (fun x hx => by simp at hx; rcases hx with rfl | rfl <;> simp)
    row := by rw [hl, acs_snoc]; exact hown7
    own := .inr rfl
    gl := hown7.lt.2
    ok := ok
    fit := fit
    ls := ls
    lw := lw
    play := hp
    dk := by rw [hl]; omega
    sz := fun z hz => by
      rcases List.mem_append.1 hz with hz | hz
      · exact hsz z hz
      · simp at hz; subst hz; exact hx
    box := hbox.grown hg7 (fun h => row_own_neW hrow hbox (by decide) h.symm)
    low := hlow.grown hg7 hlow.size (fun k hk => (hrow.lt k hk).1) }
set_option maxRecDepth 1000000 in
set_option maxHeartbeats 20000000 in
theorem never_law (A0 A1 A2 : Option Addr) (n0 n1 n2 c0 c1 c2 : Nat) (y : Yd) (A : Option Addr) (n c : Nat) (l : List Ac) (w : World) (hY : YdAt w w.heap.size A0 A1 A2 n0 n1 n2 y) (h0 : n0 ≤ maxLen) (h1 : n1 ≤ maxLen) (h2 : n2 ≤ maxLen) (hW : Wide y) (hr : Reads w w.heap.size 3 A n (acs l)) (hn : n ≤ maxLen) (hT : Tabs w) :
    Calls Tryz.prog 11 #[.agg #[.slice A0 n0 c0, .slice A1 n1 c1, .slice A2 n2 c2], .slice A n c] w fun e w' => e = .returned (.bool true) ∧ Below w.heap.size w w' := by
  have HY := Lib.hid hY
  have HT := Lib.hid (fun W (hW : Below w.heap.size w W) => hT.kept hW)
  have HAw := Lib.hid (fun W (hW : Below w.heap.size w W) => awake_any W (hT.kept hW))
  have HSm := Lib.hid (fun W (hB : Below w.heap.size w W) => small_any A0 A1 A2 n0 n1 n2 c0 c1 c2 y W (yd_kept hY hB) h0 h1 h2 hW)
  have HSA := Lib.hid (fun W (hW : Below w.heap.size w W) => ShortActs_any w.heap.size A n c l W (hr.below hW) hn)
  have hl0 := (sec_at hY.hs).1
  have hl1 := (sw_at hY.hw).1
  have hl2 := (pm_at hY.hp).1
  obtain ⟨hll, hat⟩ := ac_at hr
  have HF := Lib.hid (fun h => hW.fits (y := y) h)
  have HAT := Lib.hid hat
  have HL0 := Lib.hid hl0
  have HL1 := Lib.hid hl1
  have HL2 := Lib.hid hl2
  have HLL := Lib.hid hll
  clear hY hT h0 h1 h2 hW hl0 hl1 hl2 hr hat hll
  cases hS : smallB y with
  | false =>
    rw [hS] at HSm
    clear hS
    go_enter Tryz.func11, Tryz.ntmps11
    go_wp2_with fail
    refine (HAw.out _ bl_).mono ?_
    (rintro e w1 ⟨rfl, hb1⟩; have hs1 := hb1.size; (try simp at hs1))
    have HB1 := Lib.hid (bl_ : Below w.heap.size w w1)
    have BY := Lib.hid (bk_ : Blk w1 w.heap.size 26 #[.slice A0 n0 c0, .slice A1 n1 c1, .slice A2 n2 c2])
    have cY := BY.out.cell
    have lY := BY.out.lt
    clear hb1
    go_wp2_with fail
    refine (HSm.out _ HB1.out).mono ?_
    (rintro e w2 ⟨rfl, hb2⟩; have hs2 := hb2.size; (try simp at hs2))
    have HB2 := Lib.hid (HB1.out.trans (hb2.mono HB1.out.size))
    have hs02 := HB2.out.size
    replace BY := Lib.hid (BY.out.kept hb2)
    replace cY := BY.out.cell
    replace lY := BY.out.lt
    (try replace BG := Lib.hid (BG.out.kept hb2))
    (try replace cG := BG.out.cell)
    (try replace lG := BG.out.lt)
    clear hb2
    go_wp2_with fail
    refine (HAw.out _ HB2.out).mono ?_
    rintro e wz ⟨rfl, hbz⟩
    go_wp2_with fail
    go_ret
    exact ⟨rfl, HB2.out.trans (hbz.mono HB2.out.size)⟩
  | true =>
    rw [hS] at HSm
    cases hA : shortA l with
    | false =>
      rw [hA] at HSA
      clear hS hA HF
      go_enter Tryz.func11, Tryz.ntmps11
      go_wp2_with fail
      refine (HAw.out _ bl_).mono ?_
      (rintro e w1 ⟨rfl, hb1⟩; have hs1 := hb1.size; (try simp at hs1))
      have HB1 := Lib.hid (bl_ : Below w.heap.size w w1)
      have BY := Lib.hid (bk_ : Blk w1 w.heap.size 26 #[.slice A0 n0 c0, .slice A1 n1 c1, .slice A2 n2 c2])
      have cY := BY.out.cell
      have lY := BY.out.lt
      clear hb1
      go_wp2_with fail
      refine (HSm.out _ HB1.out).mono ?_
      (rintro e w2 ⟨rfl, hb2⟩; have hs2 := hb2.size; (try simp at hs2))
      have HB2 := Lib.hid (HB1.out.trans (hb2.mono HB1.out.size))
      have hs02 := HB2.out.size
      replace BY := Lib.hid (BY.out.kept hb2)
      replace cY := BY.out.cell
      replace lY := BY.out.lt
      (try replace BG := Lib.hid (BG.out.kept hb2))
      (try replace cG := BG.out.cell)
      (try replace lG := BG.out.lt)
      clear hb2
      go_wp2_with fail
      refine (HSA.out _ HB2.out).mono ?_
      rintro e w3 ⟨rfl, rfl⟩
      go_wp2_with fail
      refine (HAw.out _ HB2.out).mono ?_
      rintro e wz ⟨rfl, hbz⟩
      go_wp2_with fail
      go_ret
      exact ⟨rfl, HB2.out.trans (hbz.mono HB2.out.size)⟩
    | true =>
      rw [hA] at HSA
      by_cases h12 : (n : Int) ≤ 12
      case neg =>
        clear hS hA HF
        have h12' : (12 : Int) < (n : Int) := by omega
        go_enter Tryz.func11, Tryz.ntmps11
        go_wp2_with fail
        refine (HAw.out _ bl_).mono ?_
        (rintro e w1 ⟨rfl, hb1⟩; have hs1 := hb1.size; (try simp at hs1))
        have HB1 := Lib.hid (bl_ : Below w.heap.size w w1)
        have BY := Lib.hid (bk_ : Blk w1 w.heap.size 26 #[.slice A0 n0 c0, .slice A1 n1 c1, .slice A2 n2 c2])
        have cY := BY.out.cell
        have lY := BY.out.lt
        clear hb1
        go_wp2_with fail
        refine (HSm.out _ HB1.out).mono ?_
        (rintro e w2 ⟨rfl, hb2⟩; have hs2 := hb2.size; (try simp at hs2))
        have HB2 := Lib.hid (HB1.out.trans (hb2.mono HB1.out.size))
        have hs02 := HB2.out.size
        replace BY := Lib.hid (BY.out.kept hb2)
        replace cY := BY.out.cell
        replace lY := BY.out.lt
        (try replace BG := Lib.hid (BG.out.kept hb2))
        (try replace cG := BG.out.cell)
        (try replace lG := BG.out.lt)
        clear hb2
        go_wp2_with fail
        refine (HSA.out _ HB2.out).mono ?_
        rintro e w3 ⟨rfl, rfl⟩
        go_wp2_with fail
        refine (HAw.out _ HB2.out).mono ?_
        rintro e wz ⟨rfl, hbz⟩
        go_wp2_with fail
        go_ret
        exact ⟨rfl, HB2.out.trans (hbz.mono HB2.out.size)⟩
      case pos =>
        have hSS : shortY y = true ∧ smallY y = true ∧ yardE y = 0 := by
          unfold smallB at hS
          simp only [Bool.and_eq_true, beq_iff_eq] at hS
          exact ⟨hS.1.1, hS.1.2, hS.2⟩
        have hF := HF.out hSS.1
        have hyE := hSS.2.2
        obtain ⟨hsz, _⟩ := shortA_szN hA
        have f0 := hF.s9
        have f1 := hF.w9
        have f2 := hF.p9
        have g0 : n0 ≤ 9 := HL0.out ▸ f0
        have g1 : n1 ≤ 9 := HL1.out ▸ f1
        have g2 : n2 ≤ 9 := HL2.out ▸ f2
        have h12' : ¬ (12 : Int) < (n : Int) := by omega
        have HO := Lib.hid (fun W (hW : Below w.heap.size w W) => own_any w.heap.size A0 A1 A2 n0 n1 n2 c0 c1 c2 y W (HY.out.below hW) hW.size (by omega) (by omega) (by omega))
        have HG0 := Lib.hid (And.intro hyE hF)
        have HSz := Lib.hid hsz
        clear hS hA HF hF hyE hsz hSS
        as_aux_lemma =>
          go_enter Tryz.func11, Tryz.ntmps11
          go_wp2_with fail
          refine (HAw.out _ bl_).mono ?_
          (rintro e w1 ⟨rfl, hb1⟩; have hs1 := hb1.size; (try simp at hs1))
          have HB1 := Lib.hid (bl_ : Below w.heap.size w w1)
          have BY := Lib.hid (bk_ : Blk w1 w.heap.size 26 #[.slice A0 n0 c0, .slice A1 n1 c1, .slice A2 n2 c2])
          have cY := BY.out.cell
          have lY := BY.out.lt
          clear hb1
          go_wp2_with fail
          refine (HSm.out _ HB1.out).mono ?_
          (rintro e w2 ⟨rfl, hb2⟩; have hs2 := hb2.size; (try simp at hs2))
          have HB2 := Lib.hid (HB1.out.trans (hb2.mono HB1.out.size))
          have hs02 := HB2.out.size
          replace BY := Lib.hid (BY.out.kept hb2)
          replace cY := BY.out.cell
          replace lY := BY.out.lt
          (try replace BG := Lib.hid (BG.out.kept hb2))
          (try replace cG := BG.out.cell)
          (try replace lG := BG.out.lt)
          clear hb2
          go_wp2_with fail
          refine (HSA.out _ HB2.out).mono ?_
          rintro e w3 ⟨rfl, rfl⟩
          go_wp2_with fail
          refine (HO.out _ HB2.out).mono ?_
          rintro e w4 ⟨D0, D1, D2, d0, d1, d2, rfl, hO, hb4⟩
          have hs4 := hb4.size
          have HO4 := Lib.hid (YdR.of_row (X := [w4.heap.size, w.heap.size]) hO (fun x hx => by simp at hx; rcases hx with rfl | rfl <;> (first | omega | (simp; omega) | (right; omega) | (left; omega))))
          have HB4 := Lib.hid (HB2.out.trans (hb4.mono HB2.out.size))
          have hs04 := HB4.out.size
          replace BY := Lib.hid (BY.out.kept hb4)
          replace cY := BY.out.cell
          replace lY := BY.out.lt
          (try replace BG := Lib.hid (BG.out.kept hb4))
          (try replace cG := BG.out.cell)
          (try replace lG := BG.out.lt)
          clear hb4
          have hlY := lY
          clear hO
          go_wp2_with fail
          have HMv := Lib.hid (fun W D0 D1 D2 d0 d1 d2 z nm (hf : Fits z) (hz : YdAt W W.heap.size D0 D1 D2 z.s.length z.w.length z.p.length z) (hW : Below w.heap.size w W) => (Move_any W.heap.size D0 D1 D2 z.s.length z.w.length z.p.length d0 d1 d2 z W hz (Nat.le_refl _) (HT.out W hW) hf nm).mono fun _ _ h => (YdERes.mv h).u)
          have HGr := Lib.hid (fun W D0 D1 D2 d0 d1 d2 z nm sc (hf : Fits z) (hnm : nm.size ≤ maxLen) (hsc : sc.size ≤ maxLen) (hz : YdAt W W.heap.size D0 D1 D2 z.s.length z.w.length z.p.length z) (hW : Below w.heap.size w W) => (Grant_any W.heap.size D0 D1 D2 z.s.length z.w.length z.p.length d0 d1 d2 z W hz (Nat.le_refl _) (HT.out W hW) hf nm sc hnm hsc).mono fun _ _ h => (YdERes.mv h).u)
          have HRt := Lib.hid (fun W D0 D1 D2 d0 d1 d2 z nm (hf : Fits z) (hz : YdAt W W.heap.size D0 D1 D2 z.s.length z.w.length z.p.length z) (hW : Below w.heap.size w W) => (Return_any W.heap.size D0 D1 D2 z.s.length z.w.length z.p.length d0 d1 d2 z W hz (Nat.le_refl _) (HT.out W hW) hf nm).mono fun _ _ h => MvR.u h)
          have HTd := Lib.hid (fun zz (hz : len9N zz) W A0 A1 A2 c0 c1 c2 (hy : YdAt W W.heap.size A0 A1 A2 zz.s.length zz.w.length zz.p.length zz) => (told_any W.heap.size A0 A1 A2 zz.s.length zz.w.length zz.p.length c0 c1 c2 zz W hy (Nat.le_refl _) (by have := hz.1; omega) (by have := hz.2.1; omega) (by have := hz.2.2; omega)).mono fun _ _ h => h.sh)
          have HOz := Lib.hid (fun zz (hz : len9N zz) W A0 A1 A2 c0 c1 c2 (hy : YdAt W W.heap.size A0 A1 A2 zz.s.length zz.w.length zz.p.length zz) => (own_any W.heap.size A0 A1 A2 zz.s.length zz.w.length zz.p.length c0 c1 c2 zz W hy (Nat.le_refl _) (by have := hz.1; omega) (by have := hz.2.1; omega) (by have := hz.2.2; omega)).mono fun _ _ h => h.sh)
          have HSm2 := Lib.hid (fun zz (hz : len9N zz) W A0 A1 A2 D0 D1 D2 c0 c1 c2 d0 d1 d2 (hy : YdAt W W.heap.size A0 A1 A2 zz.s.length zz.w.length zz.p.length zz) (hz' : YdAt W W.heap.size D0 D1 D2 zz.s.length zz.w.length zz.p.length zz) => Same_any W.heap.size A0 A1 A2 zz.s.length zz.w.length zz.p.length c0 c1 c2 D0 D1 D2 zz.s.length zz.w.length zz.p.length d0 d1 d2 zz W hy hz' (Nat.le_refl _) (by have := hz.1; omega) (by have := hz.2.1; omega) (by have := hz.2.2; omega))
          go_loopw [6, 48] (fun v i wr => ∃ (k : Nat) (z : Yd) (D0 D1 D2 : Option Addr) (d0 d1 d2 : Nat) (dl : List Ac) (gd : Nat), i = .int .i64 k ∧ k ≤ n ∧ NvI w y A0 A1 A2 n0 n1 n2 c0 c1 c2 w4.heap.size k z D0 D1 D2 d0 d1 d2 dl v gd wr) (fun _ i _ => n - (intOf i).toNat)
          case atStart =>
            refine ⟨0, y, D0, D1, D2, d0, d1, d2, [], w.heap.size, rfl, by omega, ⟨Blk.new _ _ _, HO4.out.ex ((Ex.refl _ _).alloc _), World.ownsRow_nil _ _ _ _, .inl rfl, by simp; omega, HG0.out.1, HG0.out.2, rfl, rfl, rfl, Nat.le_refl _, (fun x hx => by cases hx), BY.out.alloc _, HB4.out.alloc HB4.out.size _⟩⟩
          case round =>
            as_aux_lemma =>
              clear HO4 BY HB4 cY lY HSm HSA hs4
              obtain ⟨k, z, D0, D1, D2, d0, d1, d2, dl, gd, rfl, hkn, hI⟩ := hrel
              have hb := hI.low
              have hsr := hb.size
              have c5 := hI.blk.cell
              have l5 := hI.blk.lt
              have cY := hI.box.cell
              have lY := hI.box.lt
              have HI := Lib.hid hI
              clear hI
              by_cases hlt : k < n
              · have hkl : k < l.length := by rw [HLL.out]; exact hlt
                obtain ⟨b, o, eA, hbb, q0, q1, q2⟩ := HAT.out k hkl
                have kb : ∀ b i, b < w.heap.size → wr.cell? ⟨b, i, none⟩ = w.cell? ⟨b, i, none⟩ := fun b i h => hb.cell (p := ⟨b, i, none⟩) (by simp; omega)
                rw [← kb _ _ hbb] at q0 q1 q2
                have hbw : b < wr.heap.size := by omega
                clear kb
                subst eA
                have hsz := HSz.out _ (List.getElem_mem hkl)
                generalize l[k] = x at *
                have HFx := Lib.hid (fun h => And.intro (act_ok (x := x) h) (act_fits (x := x) HI.out.fit hsz.1 h))
                have HXs := Lib.hid hsz
                obtain ⟨xk, xn, xs⟩ := x
                dsimp only at q0 q1 q2 hsz
                have HM := Lib.hid (fun W D0 D1 D2 d0 d1 d2 hz hW => HMv.out W D0 D1 D2 d0 d1 d2 z xn HI.out.fit hz hW)
                have HG := Lib.hid (fun W D0 D1 D2 d0 d1 d2 hz hW => HGr.out W D0 D1 D2 d0 d1 d2 z xn xs HI.out.fit hsz.1 hsz.2 hz hW)
                have HR := Lib.hid (fun W D0 D1 D2 d0 d1 d2 hz hW => HRt.out W D0 D1 D2 d0 d1 d2 z xn HI.out.fit hz hW)
                have HZL := Lib.hid (fits_len HI.out.fit)
                generalize hER : nvE z ⟨xk, xn, xs⟩ = er at *
                generalize hZZ : okY er (actY z ⟨xk, xn, xs⟩) = zz at *
                have HER := Lib.hid (And.intro hER hZZ)
                clear hER hZZ hsz
                have HB8 := Lib.hid ((Blk.new wr 116 #[.string xk, .string xn, .string xs]).alloc (.cells #[.slice none 0 0, .slice none 0 0, .slice none 0 0] 41))
                have HB9 := Lib.hid (Blk.new (wr.alloc (.cells #[.string xk, .string xn, .string xs] 116)) 41 #[.slice none 0 0, .slice none 0 0, .slice none 0 0])
                have hwa : Below wr.heap.size wr ((wr.alloc (.cells #[.string xk, .string xn, .string xs] 116)).alloc (.cells #[.slice none 0 0, .slice none 0 0, .slice none 0 0] 41)) := ((Below.refl _ wr).alloc (Nat.le_refl _) _).alloc (by simp) _
                have hsa : ((wr.alloc (.cells #[.string xk, .string xn, .string xs] 116)).alloc (.cells #[.slice none 0 0, .slice none 0 0, .slice none 0 0] 41)).heap.size = wr.heap.size + 1 + 1 := by simp
                simp only [World.size_alloc] at HB9
                as_aux_lemma =>
                  go_upto_block 2 with fail
                  generalize ((wr.alloc (.cells #[.string xk, .string xn, .string xs] 116)).alloc (.cells #[.slice none 0 0, .slice none 0 0, .slice none 0 0] 41)) = wa at *
                  have HIa := Lib.hid (HI.out.kept hwa k (Nat.le_refl _))
                  have l5r := l5
                  clear c5 l5 cY lY q0 q1 q2
                  have c5 := HIa.out.blk.cell
                  have l5 := HIa.out.blk.lt
                  have c8 := HB8.out.cell
                  have l8 := HB8.out.lt
                  have hlo := HIa.out.low.size
                  go_cut [10] (fun s10 wx => ∃ (E0 E1 E2 : Option Addr) (e0 e1 e2 : Nat), s10 = .int .i64 er ∧ Blk wx (wr.heap.size + 1) 41 #[.slice E0 zz.s.length e0, .slice E1 zz.w.length e1, .slice E2 zz.p.length e2] ∧ (∀ X : List Nat, (∀ x ∈ X, x < wa.heap.size ∨ wx.heap.size ≤ x) → YdR X wx zz E0 E1 E2 zz.s.length zz.w.length zz.p.length) ∧ Blk wx wr.heap.size 116 #[.string xk, .string xn, .string xs] ∧ Below wr.heap.size wr wx)
                  case first =>
                    as_aux_lemma =>
                      obtain ⟨hER, hZZ⟩ := HER.out
                      cases k2 : (xk.toList == [109, 111, 118, 101]) with
                      | true =>
                        have k1 : (xk.toList == [103, 114, 97, 110, 116]) = false := by rw [eq_of_beq k2]; rfl
                        have k3 : (xk.toList == [114, 101, 116, 117, 114, 110]) = false := by rw [eq_of_beq k2]; rfl
                        cases k4 : (xs.toList == []) with
                        | true =>
                          obtain ⟨f1, f2⟩ := nv_move (z := z) (x := ⟨xk, xn, xs⟩) k2 k4
                          dsimp only at f1 f2
                          rw [← f1, hER, ← f2, hZZ] at HM
                          clear hER hZZ f1 f2 HG HR
                          as_aux_lemma =>
                            go_wp2_with fail
                            have HP := Lib.hid (Below.refl wa.heap.size wa)
                            (refine wp_region_calm [wr.heap.size + 1] [0, 3, 4] 8 (by kernel_rfl) rfl (by kernel_rfl) (by kernel_rfl) (by kernel_rfl) ?_; simp only [pickB, List.filterMap_cons, List.filterMap_nil, List.getElem?_toArray, List.getElem?_cons_zero, List.getElem?_cons_succ]; (repeat (first | ((with_reducible refine quietL_plain rfl (fun K hK => ?_)); (apply Exists.intro; refine ⟨fun wx hx => ?_, ?_⟩; (· (have hcx := ifs_ex hx); simp [go_sem, *, ↓IntWalk.iteOmega] <;> (first | rfl | exact ⟨rfl, rfl⟩ | fail)); (simp only [Act.put, List.setIfInBounds_toArray, List.set_cons_zero, List.set_cons_succ]; refine hK _ ?_; clear hK K))) | ((with_reducible refine quietL_skip (by with_unfolding_all rfl) ?_); simp only [Act.put, List.setIfInBounds_toArray, List.set_cons_zero, List.set_cons_succ]) | ((with_reducible refine quietL_want (by with_unfolding_all rfl) (fun K hK => ?_)); (apply Exists.intro; refine ⟨fun wx hx => ?_, ?_⟩; (· (have hcx := ifs_ex hx); simp [go_sem, *, ↓IntWalk.iteOmega] <;> (first | rfl | exact ⟨rfl, rfl⟩ | fail)); (simp only [Act.put, List.setIfInBounds_toArray, List.set_cons_zero, List.set_cons_succ]; refine hK _ ?_; clear hK K))))); refine quietL_nil ?_)
                            (refine anyB_one (i := 1) (by kernel_rfl) rfl rfl ?_; intro wb hbb K hK; have hsb := hbb.size; (try simp at hsb); go_wp2_with fail)
                            replace HP := Lib.hid (HP.out.trans (hbb.mono HP.out.size))
                            refine (HTd.out z HZL.out _ _ _ _ _ _ _ (HIa.out.yd _ (Ex.of_below HP.out))).mono ?_
                            rintro e wc ⟨F0, F1, F2, f0, f1, f2, rfl, hyd, hbc⟩
                            have hsc := hbc.size
                            have HYc := Lib.hid hyd
                            replace HP := Lib.hid (HP.out.trans (hbc.mono HP.out.size))
                            clear hyd
                            (go_wp2; refine ⟨xs_, ?_⟩)
                            (refine anyB_one (i := 2) (by kernel_rfl) rfl rfl ?_; intro wd hbd K hK; have hsd := hbd.size; (try simp at hsd); go_wp2_with fail)
                            replace HP := Lib.hid (HP.out.trans (hbd.mono HP.out.size))
                            refine (HOz.out z HZL.out _ _ _ _ _ _ _ (yd_kept HYc.out hbd)).mono ?_
                            rintro e we ⟨F0', F1', F2', f0', f1', f2', rfl, hyd, hbe⟩
                            have hse := hbe.size
                            have HYe := Lib.hid hyd
                            replace HP := Lib.hid (HP.out.trans (hbe.mono HP.out.size))
                            clear hyd HYc
                            (go_wp2; refine ⟨xs_, ?_⟩)
                            (refine anyB_one (i := 5) (by kernel_rfl) rfl rfl ?_; intro wf hbf K hK; have hsf := hbf.size; (try simp at hsf); go_wp2_with fail)
                            replace HP := Lib.hid (HP.out.trans (hbf.mono HP.out.size))
                            refine (HM.out _ _ _ _ _ _ _ (yd_kept HYe.out hbf) (HIa.out.low.trans (HP.out.mono hlo))).mono ?_
                            rintro e wg ⟨E0, E1, E2, e0, e1, e2, rfl, hyd, hbg⟩
                            have hsg := hbg.size
                            have HYg := Lib.hid hyd
                            have hwf := Lib.hid HP.out.size
                            replace HP := Lib.hid (HP.out.trans (hbg.mono HP.out.size))
                            clear hyd HYe
                            (go_wp2; refine ⟨xs_, ?_⟩)
                            (refine anyB_quiet_at (by kernel_rfl) calm_panic xs_ 2 [6, 7, 8] _ _ (by kernel_rfl) (by decide +kernel) ?_; simp only [pickB, List.filterMap_cons, List.filterMap_nil, List.getElem?_toArray, List.getElem?_cons_zero, List.getElem?_cons_succ]; (repeat ((with_reducible refine quietL_plain rfl (fun K hK => ?_)); (apply Exists.intro; refine ⟨fun wx hx => ?_, ?_⟩; (· (have hcx := ifs_ex hx); simp [go_sem, *, ↓IntWalk.iteOmega] <;> (first | rfl | exact ⟨rfl, rfl⟩ | fail)); (simp only [Act.put, List.setIfInBounds_toArray, List.set_cons_zero, List.set_cons_succ]; refine hK _ ?_; clear hK K)))); refine quietL_nil ?_)
                            refine anyB_one (i := 9) (by kernel_rfl) rfl rfl ?_
                            intro wh hbh K6 hK6
                            have hsh := hbh.size
                            replace HP := Lib.hid (HP.out.trans (hbh.mono HP.out.size))
                            have B9 := Lib.hid (HB9.out.kept HP.out)
                            have B8 := Lib.hid (HB8.out.kept HP.out)
                            have hbw := Lib.hid (hwa.trans (HP.out.mono hwa.size))
                            have HS := Lib.hid (stay_set3 (w := wa) (b := wr.heap.size + 1) (stay_kept HYg.out hbh) hwf.out (by have := hwf.out; omega) (.slice E0 zz.s.length e0) (.slice E1 zz.w.length e1) (.slice E2 zz.p.length e2))
                            have c9 := B9.out.cell
                            have f9 := B9.out.frozen
                            have l9 := B9.out.lt
                            go_wp2
                            refine ⟨xs_, ?_⟩
                            replace B9 := Lib.hid (B9.out.set3 (.slice E0 zz.s.length e0) (.slice E1 zz.w.length e1) (.slice E2 zz.p.length e2))
                            replace B8 := Lib.hid (B8.out.far3 (show wr.heap.size ≠ wr.heap.size + 1 by omega) (.slice E0 zz.s.length e0) (.slice E1 zz.w.length e1) (.slice E2 zz.p.length e2))
                            replace hbw := Lib.hid (below_set3 hbw.out (show wr.heap.size ≤ wr.heap.size + 1 by omega) (.slice E0 zz.s.length e0) (.slice E1 zz.w.length e1) (.slice E2 zz.p.length e2))
                            clear c9 f9 l9 HYg
                            refine anyB_one (i := 10) (by kernel_rfl) rfl rfl ?_
                            intro wj hbj K7 hK7
                            have hsj := hbj.size
                            (try simp at hsj)
                            go_wp2
                            refine ⟨xs_, ?_⟩
                            refine anyB_end (by kernel_rfl) ?_
                            intro wk hbk
                            have hsk := hbk.size
                            simp only [Calm]
                            replace B9 := Lib.hid ((B9.out.kept hbj).kept hbk)
                            replace B8 := Lib.hid ((B8.out.kept hbj).kept hbk)
                            replace HS := Lib.hid (stay_kept (stay_kept HS.out hbj) hbk)
                            replace hbw := Lib.hid (hbw.out.trans (hbj.mono hbw.out.size))
                            replace hbw := Lib.hid (hbw.out.trans (hbk.mono hbw.out.size))
                            go_wp2_with fail
                            go_meet
                            case rel => exact ⟨E0, E1, E2, e0, e1, e2, rfl, B9.out, HS.out, B8.out, hbw.out⟩
                        | false =>
                          have f1 := nv_none (z := z) (x := ⟨xk, xn, xs⟩) (by show (_ && _) = false; rw [show (xs.toList == []) = false from k4, Bool.and_false]) k1 (by show (_ && _) = false; rw [show (xs.toList == []) = false from k4, Bool.and_false])
                          obtain rfl : er = 13 := hER.symm.trans f1
                          obtain rfl : zz = nilY := by rw [← hZZ, okY_no (by decide)]
                          clear hER hZZ f1 HM HG HR
                          go_wp2_with fail
                          go_meet
                          case rel => exact ⟨none, none, none, 0, 0, 0, rfl, HB9.out, nil_stay _ _, HB8.out, hwa⟩
                      | false =>
                        cases k1 : (xk.toList == [103, 114, 97, 110, 116]) with
                        | true =>
                          have k3 : (xk.toList == [114, 101, 116, 117, 114, 110]) = false := by rw [eq_of_beq k1]; rfl
                          obtain ⟨f1, f2⟩ := nv_grant (z := z) (x := ⟨xk, xn, xs⟩) k1
                          dsimp only at f1 f2
                          rw [← f1, hER, ← f2, hZZ] at HG
                          clear hER hZZ f1 f2 HM HR
                          as_aux_lemma =>
                            go_wp2_with fail
                            have HP := Lib.hid (Below.refl wa.heap.size wa)
                            (refine wp_region_calm [wr.heap.size + 1] [0, 3, 4, 5, 6] 8 (by kernel_rfl) rfl (by kernel_rfl) (by kernel_rfl) (by kernel_rfl) ?_; simp only [pickB, List.filterMap_cons, List.filterMap_nil, List.getElem?_toArray, List.getElem?_cons_zero, List.getElem?_cons_succ]; (repeat (first | ((with_reducible refine quietL_plain rfl (fun K hK => ?_)); (apply Exists.intro; refine ⟨fun wx hx => ?_, ?_⟩; (· (have hcx := ifs_ex hx); simp [go_sem, *, ↓IntWalk.iteOmega] <;> (first | rfl | exact ⟨rfl, rfl⟩ | fail)); (simp only [Act.put, List.setIfInBounds_toArray, List.set_cons_zero, List.set_cons_succ]; refine hK _ ?_; clear hK K))) | ((with_reducible refine quietL_skip (by with_unfolding_all rfl) ?_); simp only [Act.put, List.setIfInBounds_toArray, List.set_cons_zero, List.set_cons_succ]) | ((with_reducible refine quietL_want (by with_unfolding_all rfl) (fun K hK => ?_)); (apply Exists.intro; refine ⟨fun wx hx => ?_, ?_⟩; (· (have hcx := ifs_ex hx); simp [go_sem, *, ↓IntWalk.iteOmega] <;> (first | rfl | exact ⟨rfl, rfl⟩ | fail)); (simp only [Act.put, List.setIfInBounds_toArray, List.set_cons_zero, List.set_cons_succ]; refine hK _ ?_; clear hK K))))); refine quietL_nil ?_)
                            (refine anyB_one (i := 1) (by kernel_rfl) rfl rfl ?_; intro wb hbb K hK; have hsb := hbb.size; (try simp at hsb); go_wp2_with fail)
                            replace HP := Lib.hid (HP.out.trans (hbb.mono HP.out.size))
                            refine (HTd.out z HZL.out _ _ _ _ _ _ _ (HIa.out.yd _ (Ex.of_below HP.out))).mono ?_
                            rintro e wc ⟨F0, F1, F2, f0, f1, f2, rfl, hyd, hbc⟩
                            have hsc := hbc.size
                            have HYc := Lib.hid hyd
                            replace HP := Lib.hid (HP.out.trans (hbc.mono HP.out.size))
                            clear hyd
                            (go_wp2; refine ⟨xs_, ?_⟩)
                            (refine anyB_one (i := 2) (by kernel_rfl) rfl rfl ?_; intro wd hbd K hK; have hsd := hbd.size; (try simp at hsd); go_wp2_with fail)
                            replace HP := Lib.hid (HP.out.trans (hbd.mono HP.out.size))
                            refine (HOz.out z HZL.out _ _ _ _ _ _ _ (yd_kept HYc.out hbd)).mono ?_
                            rintro e we ⟨F0', F1', F2', f0', f1', f2', rfl, hyd, hbe⟩
                            have hse := hbe.size
                            have HYe := Lib.hid hyd
                            replace HP := Lib.hid (HP.out.trans (hbe.mono HP.out.size))
                            clear hyd HYc
                            (go_wp2; refine ⟨xs_, ?_⟩)
                            (refine anyB_one (i := 7) (by kernel_rfl) rfl rfl ?_; intro wf hbf K hK; have hsf := hbf.size; (try simp at hsf); go_wp2_with fail)
                            replace HP := Lib.hid (HP.out.trans (hbf.mono HP.out.size))
                            refine (HG.out _ _ _ _ _ _ _ (yd_kept HYe.out hbf) (HIa.out.low.trans (HP.out.mono hlo))).mono ?_
                            rintro e wg ⟨E0, E1, E2, e0, e1, e2, rfl, hyd, hbg⟩
                            have hsg := hbg.size
                            have HYg := Lib.hid hyd
                            have hwf := Lib.hid HP.out.size
                            replace HP := Lib.hid (HP.out.trans (hbg.mono HP.out.size))
                            clear hyd HYe
                            (go_wp2; refine ⟨xs_, ?_⟩)
                            (refine anyB_quiet_at (by kernel_rfl) calm_panic xs_ 2 [8, 9, 10] _ _ (by kernel_rfl) (by decide +kernel) ?_; simp only [pickB, List.filterMap_cons, List.filterMap_nil, List.getElem?_toArray, List.getElem?_cons_zero, List.getElem?_cons_succ]; (repeat ((with_reducible refine quietL_plain rfl (fun K hK => ?_)); (apply Exists.intro; refine ⟨fun wx hx => ?_, ?_⟩; (· (have hcx := ifs_ex hx); simp [go_sem, *, ↓IntWalk.iteOmega] <;> (first | rfl | exact ⟨rfl, rfl⟩ | fail)); (simp only [Act.put, List.setIfInBounds_toArray, List.set_cons_zero, List.set_cons_succ]; refine hK _ ?_; clear hK K)))); refine quietL_nil ?_)
                            refine anyB_one (i := 11) (by kernel_rfl) rfl rfl ?_
                            intro wh hbh K6 hK6
                            have hsh := hbh.size
                            replace HP := Lib.hid (HP.out.trans (hbh.mono HP.out.size))
                            have B9 := Lib.hid (HB9.out.kept HP.out)
                            have B8 := Lib.hid (HB8.out.kept HP.out)
                            have hbw := Lib.hid (hwa.trans (HP.out.mono hwa.size))
                            have HS := Lib.hid (stay_set3 (w := wa) (b := wr.heap.size + 1) (stay_kept HYg.out hbh) hwf.out (by have := hwf.out; omega) (.slice E0 zz.s.length e0) (.slice E1 zz.w.length e1) (.slice E2 zz.p.length e2))
                            have c9 := B9.out.cell
                            have f9 := B9.out.frozen
                            have l9 := B9.out.lt
                            go_wp2
                            refine ⟨xs_, ?_⟩
                            replace B9 := Lib.hid (B9.out.set3 (.slice E0 zz.s.length e0) (.slice E1 zz.w.length e1) (.slice E2 zz.p.length e2))
                            replace B8 := Lib.hid (B8.out.far3 (show wr.heap.size ≠ wr.heap.size + 1 by omega) (.slice E0 zz.s.length e0) (.slice E1 zz.w.length e1) (.slice E2 zz.p.length e2))
                            replace hbw := Lib.hid (below_set3 hbw.out (show wr.heap.size ≤ wr.heap.size + 1 by omega) (.slice E0 zz.s.length e0) (.slice E1 zz.w.length e1) (.slice E2 zz.p.length e2))
                            clear c9 f9 l9 HYg
                            refine anyB_one (i := 12) (by kernel_rfl) rfl rfl ?_
                            intro wj hbj K7 hK7
                            have hsj := hbj.size
                            (try simp at hsj)
                            go_wp2
                            refine ⟨xs_, ?_⟩
                            refine anyB_end (by kernel_rfl) ?_
                            intro wk hbk
                            have hsk := hbk.size
                            simp only [Calm]
                            replace B9 := Lib.hid ((B9.out.kept hbj).kept hbk)
                            replace B8 := Lib.hid ((B8.out.kept hbj).kept hbk)
                            replace HS := Lib.hid (stay_kept (stay_kept HS.out hbj) hbk)
                            replace hbw := Lib.hid (hbw.out.trans (hbj.mono hbw.out.size))
                            replace hbw := Lib.hid (hbw.out.trans (hbk.mono hbw.out.size))
                            go_wp2_with fail
                            go_meet
                            case rel => exact ⟨E0, E1, E2, e0, e1, e2, rfl, B9.out, HS.out, B8.out, hbw.out⟩
                        | false =>
                          cases k3 : (xk.toList == [114, 101, 116, 117, 114, 110]) with
                          | true =>
                            cases k4 : (xs.toList == []) with
                            | true =>
                              obtain ⟨f1, f2⟩ := nv_ret (z := z) (x := ⟨xk, xn, xs⟩) k3 k4
                              dsimp only at f1 f2
                              rw [← f1, hER, ← f2, hZZ] at HR
                              clear hER hZZ f1 f2 HM HG
                              as_aux_lemma =>
                                go_wp2_with fail
                                have HP := Lib.hid (Below.refl wa.heap.size wa)
                                (refine wp_region_calm [wr.heap.size + 1] [0, 3, 4] 8 (by kernel_rfl) rfl (by kernel_rfl) (by kernel_rfl) (by kernel_rfl) ?_; simp only [pickB, List.filterMap_cons, List.filterMap_nil, List.getElem?_toArray, List.getElem?_cons_zero, List.getElem?_cons_succ]; (repeat (first | ((with_reducible refine quietL_plain rfl (fun K hK => ?_)); (apply Exists.intro; refine ⟨fun wx hx => ?_, ?_⟩; (· (have hcx := ifs_ex hx); simp [go_sem, *, ↓IntWalk.iteOmega] <;> (first | rfl | exact ⟨rfl, rfl⟩ | fail)); (simp only [Act.put, List.setIfInBounds_toArray, List.set_cons_zero, List.set_cons_succ]; refine hK _ ?_; clear hK K))) | ((with_reducible refine quietL_skip (by with_unfolding_all rfl) ?_); simp only [Act.put, List.setIfInBounds_toArray, List.set_cons_zero, List.set_cons_succ]) | ((with_reducible refine quietL_want (by with_unfolding_all rfl) (fun K hK => ?_)); (apply Exists.intro; refine ⟨fun wx hx => ?_, ?_⟩; (· (have hcx := ifs_ex hx); simp [go_sem, *, ↓IntWalk.iteOmega] <;> (first | rfl | exact ⟨rfl, rfl⟩ | fail)); (simp only [Act.put, List.setIfInBounds_toArray, List.set_cons_zero, List.set_cons_succ]; refine hK _ ?_; clear hK K))))); refine quietL_nil ?_)
                                (refine anyB_one (i := 1) (by kernel_rfl) rfl rfl ?_; intro wb hbb K hK; have hsb := hbb.size; (try simp at hsb); go_wp2_with fail)
                                replace HP := Lib.hid (HP.out.trans (hbb.mono HP.out.size))
                                refine (HTd.out z HZL.out _ _ _ _ _ _ _ (HIa.out.yd _ (Ex.of_below HP.out))).mono ?_
                                rintro e wc ⟨F0, F1, F2, f0, f1, f2, rfl, hyd, hbc⟩
                                have hsc := hbc.size
                                have HYc := Lib.hid hyd
                                replace HP := Lib.hid (HP.out.trans (hbc.mono HP.out.size))
                                clear hyd
                                (go_wp2; refine ⟨xs_, ?_⟩)
                                (refine anyB_one (i := 2) (by kernel_rfl) rfl rfl ?_; intro wd hbd K hK; have hsd := hbd.size; (try simp at hsd); go_wp2_with fail)
                                replace HP := Lib.hid (HP.out.trans (hbd.mono HP.out.size))
                                refine (HOz.out z HZL.out _ _ _ _ _ _ _ (yd_kept HYc.out hbd)).mono ?_
                                rintro e we ⟨F0', F1', F2', f0', f1', f2', rfl, hyd, hbe⟩
                                have hse := hbe.size
                                have HYe := Lib.hid hyd
                                replace HP := Lib.hid (HP.out.trans (hbe.mono HP.out.size))
                                clear hyd HYc
                                (go_wp2; refine ⟨xs_, ?_⟩)
                                (refine anyB_one (i := 5) (by kernel_rfl) rfl rfl ?_; intro wf hbf K hK; have hsf := hbf.size; (try simp at hsf); go_wp2_with fail)
                                replace HP := Lib.hid (HP.out.trans (hbf.mono HP.out.size))
                                refine (HR.out _ _ _ _ _ _ _ (yd_kept HYe.out hbf) (HIa.out.low.trans (HP.out.mono hlo))).mono ?_
                                rintro e wg ⟨E0, E1, E2, e0, e1, e2, rfl, hyd, hbg⟩
                                have hsg := hbg.size
                                have HYg := Lib.hid hyd
                                have hwf := Lib.hid HP.out.size
                                replace HP := Lib.hid (HP.out.trans (hbg.mono HP.out.size))
                                clear hyd HYe
                                (go_wp2; refine ⟨xs_, ?_⟩)
                                (refine anyB_quiet_at (by kernel_rfl) calm_panic xs_ 2 [6, 7, 8] _ _ (by kernel_rfl) (by decide +kernel) ?_; simp only [pickB, List.filterMap_cons, List.filterMap_nil, List.getElem?_toArray, List.getElem?_cons_zero, List.getElem?_cons_succ]; (repeat ((with_reducible refine quietL_plain rfl (fun K hK => ?_)); (apply Exists.intro; refine ⟨fun wx hx => ?_, ?_⟩; (· (have hcx := ifs_ex hx); simp [go_sem, *, ↓IntWalk.iteOmega] <;> (first | rfl | exact ⟨rfl, rfl⟩ | fail)); (simp only [Act.put, List.setIfInBounds_toArray, List.set_cons_zero, List.set_cons_succ]; refine hK _ ?_; clear hK K)))); refine quietL_nil ?_)
                                refine anyB_one (i := 9) (by kernel_rfl) rfl rfl ?_
                                intro wh hbh K6 hK6
                                have hsh := hbh.size
                                replace HP := Lib.hid (HP.out.trans (hbh.mono HP.out.size))
                                have B9 := Lib.hid (HB9.out.kept HP.out)
                                have B8 := Lib.hid (HB8.out.kept HP.out)
                                have hbw := Lib.hid (hwa.trans (HP.out.mono hwa.size))
                                have HS := Lib.hid (stay_set3 (w := wa) (b := wr.heap.size + 1) (stay_kept HYg.out hbh) hwf.out (by have := hwf.out; omega) (.slice E0 zz.s.length e0) (.slice E1 zz.w.length e1) (.slice E2 zz.p.length e2))
                                have c9 := B9.out.cell
                                have f9 := B9.out.frozen
                                have l9 := B9.out.lt
                                go_wp2
                                refine ⟨xs_, ?_⟩
                                replace B9 := Lib.hid (B9.out.set3 (.slice E0 zz.s.length e0) (.slice E1 zz.w.length e1) (.slice E2 zz.p.length e2))
                                replace B8 := Lib.hid (B8.out.far3 (show wr.heap.size ≠ wr.heap.size + 1 by omega) (.slice E0 zz.s.length e0) (.slice E1 zz.w.length e1) (.slice E2 zz.p.length e2))
                                replace hbw := Lib.hid (below_set3 hbw.out (show wr.heap.size ≤ wr.heap.size + 1 by omega) (.slice E0 zz.s.length e0) (.slice E1 zz.w.length e1) (.slice E2 zz.p.length e2))
                                clear c9 f9 l9 HYg
                                refine anyB_one (i := 10) (by kernel_rfl) rfl rfl ?_
                                intro wj hbj K7 hK7
                                have hsj := hbj.size
                                (try simp at hsj)
                                go_wp2
                                refine ⟨xs_, ?_⟩
                                refine anyB_end (by kernel_rfl) ?_
                                intro wk hbk
                                have hsk := hbk.size
                                simp only [Calm]
                                replace B9 := Lib.hid ((B9.out.kept hbj).kept hbk)
                                replace B8 := Lib.hid ((B8.out.kept hbj).kept hbk)
                                replace HS := Lib.hid (stay_kept (stay_kept HS.out hbj) hbk)
                                replace hbw := Lib.hid (hbw.out.trans (hbj.mono hbw.out.size))
                                replace hbw := Lib.hid (hbw.out.trans (hbk.mono hbw.out.size))
                                go_wp2_with fail
                                go_meet
                                case rel => exact ⟨E0, E1, E2, e0, e1, e2, rfl, B9.out, HS.out, B8.out, hbw.out⟩
                            | false =>
                              have f1 := nv_none (z := z) (x := ⟨xk, xn, xs⟩) (by show (_ && _) = false; rw [show (xs.toList == []) = false from k4, Bool.and_false]) k1 (by show (_ && _) = false; rw [show (xs.toList == []) = false from k4, Bool.and_false])
                              obtain rfl : er = 13 := hER.symm.trans f1
                              obtain rfl : zz = nilY := by rw [← hZZ, okY_no (by decide)]
                              clear hER hZZ f1 HM HG HR
                              go_wp2_with fail
                              go_meet
                              case rel => exact ⟨none, none, none, 0, 0, 0, rfl, HB9.out, nil_stay _ _, HB8.out, hwa⟩
                          | false =>
                            have f1 := nv_none (z := z) (x := ⟨xk, xn, xs⟩) (by show (_ && _) = false; rw [show (xk.toList == moveW) = false from k2]; rfl) k1 (by show (_ && _) = false; rw [show (xk.toList == returnW) = false from k3]; rfl)
                            obtain rfl : er = 13 := hER.symm.trans f1
                            obtain rfl : zz = nilY := by rw [← hZZ, okY_no (by decide)]
                            clear hER hZZ f1 HM HG HR
                            go_wp2_with fail
                            go_meet
                            case rel => exact ⟨none, none, none, 0, 0, 0, rfl, HB9.out, nil_stay _ _, HB8.out, hwa⟩
                  rename World => wx
                  obtain ⟨E0, E1, E2, e0, e1, e2, rfl, hB9, hyz, hB8, hbx⟩ := hcut
                  have hsx := hbx.size
                  by_cases hz0 : er = 0
                  case neg =>
                    as_aux_lemma =>
                      go_wp2_with fail
                      refine ⟨⟨k + 1, z, D0, D1, D2, d0, d1, d2, dl, gd, by simp, by omega, HI.out.kept hbx (k + 1) (by omega)⟩, ?_⟩
                      simp only [intOf]
                      omega
                  case pos =>
                    obtain ⟨hER, hZZ⟩ := HER.out
                    subst hz0
                    rw [okY_ok] at hZZ
                    have ha : actE z ⟨xk, xn, xs⟩ = 0 := nv_act hER
                    obtain ⟨a1, a2, a3⟩ := act_one ha
                    obtain ⟨a4, a5⟩ := HFx.out ha
                    rw [hZZ] at a1 a2 a3 a4 a5
                    have ls := HI.out.ls
                    have lw := HI.out.lw
                    have q0 : zz.s.length = n0 := by rw [a1, ls, HL0.out]
                    have q1 : zz.w.length = n1 := by rw [a2, lw, HL1.out]
                    have q2 : z.w.length = n1 := by rw [lw, HL1.out]
                    have p8 := (yard_ok a4).1.p8
                    have r8 := (yard_ok HI.out.ok).1.p8
                    have hp8 : ¬ (8 : Int) < (zz.p.length : Int) := by omega
                    have hpe : partsE zz = 0 := (yardE_zero.1 a4).1
                    have HZN := Lib.hid (fits_len a5)
                    have HTz := Lib.hid (HTd.out zz HZN.out)
                    have HOy := Lib.hid (HOz.out zz HZN.out)
                    have HCP := Lib.hid (fun W D0 D1 D2 d0 d1 d2 (hy : YdAt W W.heap.size D0 D1 D2 zz.s.length zz.w.length zz.p.length zz) => rCheckParts_any W.heap.size D0 D1 D2 zz.s.length zz.w.length zz.p.length d0 d1 d2 zz W hy (Nat.le_refl _) a5)
                    have HEn := Lib.hid (fun W D0 D1 D2 d0 d1 d2 (hy : YdAt W W.heap.size D0 D1 D2 zz.s.length zz.w.length zz.p.length zz) (hW : Below w.heap.size w W) => Energized_any W.heap.size D0 D1 D2 zz.s.length zz.w.length zz.p.length d0 d1 d2 zz W hy (Nat.le_refl _) (HT.out W hW) a5)
                    have HEa := Lib.hid (fun W D0 D1 D2 d0 d1 d2 (hy : YdAt W W.heap.size D0 D1 D2 zz.s.length zz.w.length zz.p.length zz) (hW : Below w.heap.size w W) => Earthed_any W.heap.size D0 D1 D2 zz.s.length zz.w.length zz.p.length d0 d1 d2 zz W hy (Nat.le_refl _) (HT.out W hW) a5)
                    rw [hpe] at HCP
                    simp only [a4, resI, if_true] at HEn HEa
                    change Hid (∀ W D0 D1 D2 d0 d1 d2 hy hW, Calls _ _ _ W (IntsERes W (enL zz) 0)) at HEn
                    change Hid (∀ W D0 D1 D2 d0 d1 d2 hy hW, Calls _ _ _ W (IntsERes W (earL zz) 0)) at HEa
                    rw [q0, q1] at HTz hB9 hyz
                    have HMz := Lib.hid (fun W D0 D1 D2 d0 d1 d2 hz hW => HMv.out W D0 D1 D2 d0 d1 d2 zz xn a5 hz hW)
                    have HTn := Lib.hid (HTd.out z HZL.out)
                    have HSaz := Lib.hid (HSm2.out z HZL.out)
                    have HDK := Lib.hid HI.out.dk
                    have hga := HIa.out.gl
                    have h4a := HIa.out.blk.lt
                    have HA := Lib.hid (And.intro a3 (And.intro a4 (And.intro a5 (And.intro q0 (And.intro q1 q2)))))
                    have HST := Lib.hid (And.intro hER hZZ)
                    have B9 := Lib.hid hB9
                    have B8 := Lib.hid hB8
                    have HSt := Lib.hid hyz
                    have HIx := Lib.hid (HI.out.kept hbx (k + 1) (by omega))
                    have c5 := HIx.out.blk.cell
                    have l5 := HIx.out.blk.lt
                    have cY := HIx.out.box.cell
                    have lY := HIx.out.box.lt
                    have c9 := B9.out.cell
                    have l9 := B9.out.lt
                    have c8 := B8.out.cell
                    have l8 := B8.out.lt
                    clear a1 a2 a3 a4 a5 q0 q1 q2 ls lw hER hZZ ha hpe hB8 hB9 hyz HER HFx HM HG HR HI HIa hwa hsa hbx hsx HB8 HB9 hlo HMv HGr HRt HTd HOz
                    as_aux_lemma =>
                      go_wp2_with fail
                      refine (HTz.out _ _ _ _ _ _ _ (HSt.out [] (fun x hx => by cases hx) _ (Ex.refl _ _))).mono ?_
                      rintro e w1 ⟨F0, F1, F2, f0, f1, f2, rfl, hyd, hb1⟩
                      have hs1 := hb1.size
                      have HYt := Lib.hid hyd
                      clear hyd
                      replace HIx := Lib.hid (HIx.out.kept hb1 (k + 1) (Nat.le_refl _))
                      replace B9 := Lib.hid (B9.out.kept hb1)
                      replace B8 := Lib.hid (B8.out.kept hb1)
                      replace HSt := Lib.hid (stay_kept HSt.out hb1)
                      (try replace HRn := Lib.hid (rd_kept HRn.out hb1))
                      (try replace HRa := Lib.hid (rd_kept HRa.out hb1))
                      clear c5 l5 cY lY c9 l9 c8 l8
                      have c5 := HIx.out.blk.cell
                      have l5 := HIx.out.blk.lt
                      have cY := HIx.out.box.cell
                      have lY := HIx.out.box.lt
                      have c9 := B9.out.cell
                      have l9 := B9.out.lt
                      have c8 := B8.out.cell
                      have l8 := B8.out.lt
                      go_wp2_with fail
                      refine (HCP.out _ _ _ _ _ _ _ HYt.out).mono ?_
                      (rintro e w2 ⟨rfl, hb2⟩; have hs2 := hb2.size; (try simp at hs2))
                      clear HYt
                      replace HIx := Lib.hid (HIx.out.kept hb2 (k + 1) (Nat.le_refl _))
                      replace B9 := Lib.hid (B9.out.kept hb2)
                      replace B8 := Lib.hid (B8.out.kept hb2)
                      replace HSt := Lib.hid (stay_kept HSt.out hb2)
                      (try replace HRn := Lib.hid (rd_kept HRn.out hb2))
                      (try replace HRa := Lib.hid (rd_kept HRa.out hb2))
                      clear c5 l5 cY lY c9 l9 c8 l8
                      have c5 := HIx.out.blk.cell
                      have l5 := HIx.out.blk.lt
                      have cY := HIx.out.box.cell
                      have lY := HIx.out.box.lt
                      have c9 := B9.out.cell
                      have l9 := B9.out.lt
                      have c8 := B8.out.cell
                      have l8 := B8.out.lt
                      as_aux_lemma =>
                        go_upto_if 141 with fail
                        generalize hdd : (((zz.p.length : Int) - (z.p.length : Int)).natAbs : Int) = dd
                        have HDD := Lib.hid hdd
                        have hdb : 0 ≤ dd ∧ dd ≤ 9 := by omega
                        go_cut [11] (fun s11 wy => s11 = .int .i64 dd ∧ wy = w2)
                        case first =>
                          as_aux_lemma =>
                            by_cases hd : (zz.p.length : Int) - (z.p.length : Int) < 0
                            · have hd2 : -((zz.p.length : Int) - (z.p.length : Int)) = dd := by omega
                              clear hdd
                              go_wp2_with fail
                              go_meet
                              case rel => exact ⟨by rw [← hd2], rfl⟩
                            · have hd2 : (zz.p.length : Int) - (z.p.length : Int) = dd := by omega
                              clear hdd
                              go_wp2_with fail
                              go_meet
                              case rel => exact ⟨by rw [← hd2], rfl⟩
                        clear hdd
                        obtain ⟨rfl, rfl⟩ := hcut
                        go_upto_block 3 with fail
                        go_cut [11] (fun s11 wy => s11 = .int .i64 1 ∧ Below wc.heap.size wc wy)
                        case first =>
                          as_aux_lemma =>
                            obtain ⟨_, _, _, _, hq1, hq2⟩ := HA.out
                            go_wp2_with fail
                            go_loopw [11, 147] (fun s i W => ∃ j : Nat, j ≤ n1 ∧ i = .int .i64 j ∧ s = .int .i64 (dd + chgUp zz.w z.w j) ∧ Below wc.heap.size wc W) (fun _ i _ => n1 - (intOf i).toNat)
                            case atStart => exact ⟨0, by omega, rfl, by simp [chgUp], Below.refl _ _⟩
                            case round =>
                              rename World => wo
                              obtain ⟨j, hj, rfl, rfl, hbo⟩ := hrel
                              have hso := hbo.size
                              by_cases hjn : j < n1
                              · skip
                                as_aux_lemma =>
                                  have hj1 : j < zz.w.length := by omega
                                  have hj2 : j < z.w.length := by omega
                                  obtain ⟨b1, o1, rfl, hb1', _, _, _, _, r1⟩ := (sw_at (HSt.out [] (fun x hx => by cases hx) _ (Ex.refl _ _)).hw).2 j hj1
                                  obtain ⟨b2, o2, rfl, hb2', _, _, _, _, r2⟩ := (sw_at (HIx.out.yd _ (Ex.refl _ _)).hw).2 j hj2
                                  rw [← hbo.cell (p := ⟨b1, o1 + j * 5 + 4, none⟩) hb1'] at r1
                                  rw [← hbo.cell (p := ⟨b2, o2 + j * 5 + 4, none⟩) hb2'] at r2
                                  have d9 := (B9.out.kept hbo).cell
                                  have m9 := (B9.out.kept hbo).lt
                                  have d5 := (HIx.out.blk.kept hbo).cell
                                  have m5 := (HIx.out.blk.kept hbo).lt
                                  have hu := chgUp_succ zz.w z.w j hj1 hj2
                                  have HU := Lib.hid hu
                                  have hub := chgUp_bd zz.w z.w j
                                  generalize zz.w[j].c = p1 at *
                                  generalize z.w[j].c = p2 at *
                                  clear hu
                                  cases p1 <;> cases p2
                                  all_goals
                                    go_wp2_with fail
                                    (refine wp_region_calm [] [0, 1, 2, 3, 4, 5, 6, 7, 8, 9, 10, 11, 12] 0 (by kernel_rfl) rfl (by kernel_rfl) (by kernel_rfl) (by kernel_rfl) ?_; simp only [pickB, List.filterMap_cons, List.filterMap_nil, List.getElem?_toArray, List.getElem?_cons_zero, List.getElem?_cons_succ]; (repeat (first | ((with_reducible refine quietL_plain rfl (fun K hK => ?_)); (apply Exists.intro; refine ⟨fun wx hx => ?_, ?_⟩; (· (have hcx := ifs_ex hx); simp [go_sem, *, ↓IntWalk.iteOmega] <;> (first | rfl | exact ⟨rfl, rfl⟩ | fail)); (simp only [Act.put, List.setIfInBounds_toArray, List.set_cons_zero, List.set_cons_succ]; refine hK _ ?_; clear hK K))) | ((with_reducible refine quietL_skip (by with_unfolding_all rfl) ?_); simp only [Act.put, List.setIfInBounds_toArray, List.set_cons_zero, List.set_cons_succ]) | ((with_reducible refine quietL_want (by with_unfolding_all rfl) (fun K hK => ?_)); (apply Exists.intro; refine ⟨fun wx hx => ?_, ?_⟩; (· (have hcx := ifs_ex hx); simp [go_sem, *, ↓IntWalk.iteOmega] <;> (first | rfl | exact ⟨rfl, rfl⟩ | fail)); (simp only [Act.put, List.setIfInBounds_toArray, List.set_cons_zero, List.set_cons_succ]; refine hK _ ?_; clear hK K))))); refine quietL_nil ?_)
                                    (refine anyB_end (by kernel_rfl) ?_; intro w5 hb5; obtain ⟨hc5, hf5⟩ := ifs_of hb5; have hs5 := hb5.size; (try simp at hs5); simp only [Calm]; go_wp2_with fail)
                                    go_roundw
                                    case rel => exact ⟨j + 1, by omega, by go_num, by rw [HU.out]; simp [Int.add_assoc], bl_⟩
                                    case measure => simp [intOf]; omega
                              · obtain rfl : j = n1 := by omega
                                have hone : dd + chgUp zz.w z.w j = 1 := by
                                  have h1 := HA.out.1
                                  have h2 := HDD.out
                                  rw [hq2] at h1
                                  omega
                                rw [hone]
                                clear hq1 hq2 hone
                                go_wp2_with fail
                                go_meet
                                case rel => exact ⟨rfl, hbo⟩
                        rename World => w3
                        obtain ⟨rfl, hb3⟩ := hcut
                        have hs3 := hb3.size
                        have hzs : (enL zz).length ≤ 8 ∧ (earL zz).length ≤ 8 := by
                          have h1 := enL_len zz
                          have h2 := earL_len zz
                          have h3 := (yard_ok HA.out.2.1).1.n8
                          omega
                        have HEE := Lib.hid (fun (i : Int) (hi : i ∈ enL zz) => And.intro (en_ea HA.out.2.1 hi) (en_pm HA.out.2.1 hi))
                        generalize enL zz = le at *
                        generalize earL zz = la at *
                        have hz1 : ¬ (8 : Int) < (le.length : Int) := by omega
                        have hz2 : ¬ (8 : Int) < (la.length : Int) := by omega
                        replace HIx := Lib.hid (HIx.out.kept hb3 (k + 1) (Nat.le_refl _))
                        replace B9 := Lib.hid (B9.out.kept hb3)
                        replace B8 := Lib.hid (B8.out.kept hb3)
                        replace HSt := Lib.hid (stay_kept HSt.out hb3)
                        (try replace HRn := Lib.hid (rd_kept HRn.out hb3))
                        (try replace HRa := Lib.hid (rd_kept HRa.out hb3))
                        clear c5 l5 cY lY c9 l9 c8 l8
                        have c5 := HIx.out.blk.cell
                        have l5 := HIx.out.blk.lt
                        have cY := HIx.out.box.cell
                        have lY := HIx.out.box.lt
                        have c9 := B9.out.cell
                        have l9 := B9.out.lt
                        have c8 := B8.out.cell
                        have l8 := B8.out.lt
                        clear hzs hdb HDD
                        as_aux_lemma =>
                          go_wp2_with fail
                          refine (HTz.out _ _ _ _ _ _ _ (HSt.out [] (fun x hx => by cases hx) _ (Ex.refl _ _))).mono ?_
                          rintro e w5 ⟨F0, F1, F2, f0, f1, f2, rfl, hyd, hb5⟩
                          have hs5 := hb5.size
                          have HYt := Lib.hid hyd
                          clear hyd
                          replace HIx := Lib.hid (HIx.out.kept hb5 (k + 1) (Nat.le_refl _))
                          replace B9 := Lib.hid (B9.out.kept hb5)
                          replace B8 := Lib.hid (B8.out.kept hb5)
                          replace HSt := Lib.hid (stay_kept HSt.out hb5)
                          (try replace HRn := Lib.hid (rd_kept HRn.out hb5))
                          (try replace HRa := Lib.hid (rd_kept HRa.out hb5))
                          clear c5 l5 cY lY c9 l9 c8 l8
                          have c5 := HIx.out.blk.cell
                          have l5 := HIx.out.blk.lt
                          have cY := HIx.out.box.cell
                          have lY := HIx.out.box.lt
                          have c9 := B9.out.cell
                          have l9 := B9.out.lt
                          have c8 := B8.out.cell
                          have l8 := B8.out.lt
                          go_wp2_with fail
                          refine (HOy.out _ _ _ _ _ _ _ HYt.out).mono ?_
                          rintro e w6 ⟨F0', F1', F2', f0', f1', f2', rfl, hyd, hb6⟩
                          have hs6 := hb6.size
                          have HYo := Lib.hid hyd
                          clear hyd HYt
                          replace HIx := Lib.hid (HIx.out.kept hb6 (k + 1) (Nat.le_refl _))
                          replace B9 := Lib.hid (B9.out.kept hb6)
                          replace B8 := Lib.hid (B8.out.kept hb6)
                          replace HSt := Lib.hid (stay_kept HSt.out hb6)
                          (try replace HRn := Lib.hid (rd_kept HRn.out hb6))
                          (try replace HRa := Lib.hid (rd_kept HRa.out hb6))
                          clear c5 l5 cY lY c9 l9 c8 l8
                          have c5 := HIx.out.blk.cell
                          have l5 := HIx.out.blk.lt
                          have cY := HIx.out.box.cell
                          have lY := HIx.out.box.lt
                          have c9 := B9.out.cell
                          have l9 := B9.out.lt
                          have c8 := B8.out.cell
                          have l8 := B8.out.lt
                          go_wp2_with fail
                          refine (HEn.out _ _ _ _ _ _ _ HYo.out HIx.out.low).mono ?_
                          rintro e w7 ⟨A7, cap7, rfl, hr7, hb7⟩
                          have hs7 := hb7.size
                          replace HIx := Lib.hid (HIx.out.kept hb7 (k + 1) (Nat.le_refl _))
                          replace B9 := Lib.hid (B9.out.kept hb7)
                          replace B8 := Lib.hid (B8.out.kept hb7)
                          replace HSt := Lib.hid (stay_kept HSt.out hb7)
                          (try replace HRn := Lib.hid (rd_kept HRn.out hb7))
                          (try replace HRa := Lib.hid (rd_kept HRa.out hb7))
                          clear c5 l5 cY lY c9 l9 c8 l8
                          have c5 := HIx.out.blk.cell
                          have l5 := HIx.out.blk.lt
                          have cY := HIx.out.box.cell
                          have lY := HIx.out.box.lt
                          have c9 := B9.out.cell
                          have l9 := B9.out.lt
                          have c8 := B8.out.cell
                          have l8 := B8.out.lt
                          have HRn := Lib.hid hr7
                          clear HYo hr7
                          go_wp2_with fail
                          refine (HTz.out _ _ _ _ _ _ _ (HSt.out [] (fun x hx => by cases hx) _ (Ex.refl _ _))).mono ?_
                          rintro e w8 ⟨F0, F1, F2, f0, f1, f2, rfl, hyd, hb8⟩
                          have hs8 := hb8.size
                          have HYt := Lib.hid hyd
                          clear hyd
                          replace HIx := Lib.hid (HIx.out.kept hb8 (k + 1) (Nat.le_refl _))
                          replace B9 := Lib.hid (B9.out.kept hb8)
                          replace B8 := Lib.hid (B8.out.kept hb8)
                          replace HSt := Lib.hid (stay_kept HSt.out hb8)
                          (try replace HRn := Lib.hid (rd_kept HRn.out hb8))
                          (try replace HRa := Lib.hid (rd_kept HRa.out hb8))
                          clear c5 l5 cY lY c9 l9 c8 l8
                          have c5 := HIx.out.blk.cell
                          have l5 := HIx.out.blk.lt
                          have cY := HIx.out.box.cell
                          have lY := HIx.out.box.lt
                          have c9 := B9.out.cell
                          have l9 := B9.out.lt
                          have c8 := B8.out.cell
                          have l8 := B8.out.lt
                          go_wp2_with fail
                          refine (HOy.out _ _ _ _ _ _ _ HYt.out).mono ?_
                          rintro e w9 ⟨F0', F1', F2', f0', f1', f2', rfl, hyd, hb9⟩
                          have hs9 := hb9.size
                          have HYo := Lib.hid hyd
                          clear hyd HYt
                          replace HIx := Lib.hid (HIx.out.kept hb9 (k + 1) (Nat.le_refl _))
                          replace B9 := Lib.hid (B9.out.kept hb9)
                          replace B8 := Lib.hid (B8.out.kept hb9)
                          replace HSt := Lib.hid (stay_kept HSt.out hb9)
                          (try replace HRn := Lib.hid (rd_kept HRn.out hb9))
                          (try replace HRa := Lib.hid (rd_kept HRa.out hb9))
                          clear c5 l5 cY lY c9 l9 c8 l8
                          have c5 := HIx.out.blk.cell
                          have l5 := HIx.out.blk.lt
                          have cY := HIx.out.box.cell
                          have lY := HIx.out.box.lt
                          have c9 := B9.out.cell
                          have l9 := B9.out.lt
                          have c8 := B8.out.cell
                          have l8 := B8.out.lt
                          go_wp2_with fail
                          refine (HEa.out _ _ _ _ _ _ _ HYo.out HIx.out.low).mono ?_
                          rintro e w10 ⟨A10, cap10, rfl, hr10, hb10⟩
                          have hs10 := hb10.size
                          replace HIx := Lib.hid (HIx.out.kept hb10 (k + 1) (Nat.le_refl _))
                          replace B9 := Lib.hid (B9.out.kept hb10)
                          replace B8 := Lib.hid (B8.out.kept hb10)
                          replace HSt := Lib.hid (stay_kept HSt.out hb10)
                          (try replace HRn := Lib.hid (rd_kept HRn.out hb10))
                          (try replace HRa := Lib.hid (rd_kept HRa.out hb10))
                          clear c5 l5 cY lY c9 l9 c8 l8
                          have c5 := HIx.out.blk.cell
                          have l5 := HIx.out.blk.lt
                          have cY := HIx.out.box.cell
                          have lY := HIx.out.box.lt
                          have c9 := B9.out.cell
                          have l9 := B9.out.lt
                          have c8 := B8.out.cell
                          have l8 := B8.out.lt
                          have HRa := Lib.hid hr10
                          clear HYo hr10
                          as_aux_lemma =>
                            go_upto_block 5 with fail
                            go_cut [] (fun wy => Below w10.heap.size w10 wy)
                            case first =>
                              as_aux_lemma =>
                                go_wp2_with fail
                                go_loopw [202] (fun i W => ∃ j : Nat, j ≤ le.length ∧ i = .int .i64 j ∧ Below w10.heap.size w10 W) (fun i _ => le.length - (intOf i).toNat)
                                case atStart => exact ⟨0, by omega, rfl, Below.refl _ _⟩
                                case round =>
                                  rename World => wp
                                  obtain ⟨j, hj, rfl, hbp⟩ := hrel
                                  have hsp := hbp.size
                                  by_cases hjn : j < le.length
                                  · obtain ⟨b, o, u, rfl, hbb, hu, hc⟩ := (HRn.out.below hbp).at_ hjn
                                    obtain rfl : u = .int .i64 le[j] := by simpa [hjn] using hu.symm
                                    have hin := HEE.out le[j] (List.getElem_mem hjn)
                                    have HIN := Lib.hid hin.2
                                    have hno := hin.1
                                    have hbw : b < wp.heap.size := by omega
                                    generalize le[j] = x at *
                                    have HHi := Lib.hid (HasInt_any _ A10 la.length cap10 la x wp (HRa.out.below hbp) (by unfold maxLen; omega))
                                    rw [hno] at HHi
                                    have d9 := (B9.out.kept hbp).cell
                                    have m9 := (B9.out.kept hbp).lt
                                    clear hno hin hu
                                    go_wp2_with fail
                                    refine HHi.out.mono ?_
                                    rintro e w' ⟨rfl, rfl⟩
                                    go_wp2_with fail
                                    go_loopw [212] (fun i W => ∃ m : Nat, m ≤ zz.p.length ∧ i = .int .i64 m ∧ Below wp.heap.size wp W) (fun i _ => zz.p.length - (intOf i).toNat)
                                    case atStart => exact ⟨0, by omega, rfl, Below.refl _ _⟩
                                    case round =>
                                      as_aux_lemma =>
                                        rename World => wq
                                        obtain ⟨m, hm, rfl, hbq⟩ := hrel
                                        have hsq := hbq.size
                                        have hbpq := hbp.trans (hbq.mono hbp.size)
                                        by_cases hmn : m < zz.p.length
                                        · obtain ⟨b1, o1, rfl, hb1', r0, r1⟩ := (pm_at (HSt.out [] (fun x hx => by cases hx) _ (Ex.refl _ _)).hp).2 m hmn
                                          have hne := HIN.out _ (List.getElem_mem hmn)
                                          rw [← hbpq.cell (p := ⟨b1, o1 + m * 2, none⟩) hb1'] at r0
                                          rw [← hbpq.cell (p := ⟨b1, o1 + m * 2 + 1, none⟩) hb1'] at r1
                                          have hb1w : b1 < wq.heap.size := by omega
                                          generalize zz.p[m] = px at *
                                          obtain ⟨pn, ps⟩ := px
                                          dsimp only at r0 r1 hne
                                          have hne' : (ps == x) = false := by simpa using hne
                                          go_wp2_with fail
                                          go_roundw
                                          case rel => exact ⟨m + 1, by omega, by go_num, bl_⟩
                                          case measure => simp [intOf]; omega
                                        · obtain rfl : m = zz.p.length := by omega
                                          go_wp2_with fail
                                          go_roundw
                                          case rel => exact ⟨j + 1, by omega, by go_num, hbpq⟩
                                          case measure => simp [intOf]; omega
                                  · obtain rfl : j = le.length := by omega
                                    go_wp2_with fail
                                    go_meet
                                    case rel => exact hbp
                            rename World => w11
                            have hb11 : Below w10.heap.size w10 w11 := hcut
                            clear hcut
                            have hs11 := hb11.size
                            replace HIx := Lib.hid (HIx.out.kept hb11 (k + 1) (Nat.le_refl _))
                            replace B9 := Lib.hid (B9.out.kept hb11)
                            replace B8 := Lib.hid (B8.out.kept hb11)
                            replace HSt := Lib.hid (stay_kept HSt.out hb11)
                            (try replace HRn := Lib.hid (rd_kept HRn.out hb11))
                            (try replace HRa := Lib.hid (rd_kept HRa.out hb11))
                            clear c5 l5 cY lY c9 l9 c8 l8
                            have c5 := HIx.out.blk.cell
                            have l5 := HIx.out.blk.lt
                            have cY := HIx.out.box.cell
                            have lY := HIx.out.box.lt
                            have c9 := B9.out.cell
                            have l9 := B9.out.lt
                            have c8 := B8.out.cell
                            have l8 := B8.out.lt
                            clear HRn HRa hz1 hz2
                            as_aux_lemma =>
                              go_upto_if 224 with fail
                              go_cut [] (fun wy => Below w11.heap.size w11 wy)
                              case first =>
                                as_aux_lemma =>
                                  cases k2 : (xk.toList == [109, 111, 118, 101]) with
                                  | false =>
                                    go_wp2_with fail
                                    go_meet
                                    case rel => exact Below.refl _ _
                                  | true =>
                                    obtain ⟨hER, hZZ⟩ := HST.out
                                    have k4 : (xs.toList == []) = true := by
                                      have k1 : (xk.toList == grantW) = false := by rw [eq_of_beq k2]; rfl
                                      have k3 : (xk.toList == returnW) = false := by rw [eq_of_beq k2]; rfl
                                      cases k4 : (xs.toList == []) with
                                      | true => rfl
                                      | false =>
                                        have := nv_none (z := z) (x := ⟨xk, xn, xs⟩) (by show (_ && _) = false; rw [show (xs.toList == []) = false from k4, Bool.and_false]) k1 (by show (_ && _) = false; rw [show (xs.toList == []) = false from k4, Bool.and_false])
                                        rw [hER] at this
                                        cases this
                                    obtain ⟨f1, f2⟩ := nv_move (z := z) (x := ⟨xk, xn, xs⟩) k2 k4
                                    dsimp only at f1 f2
                                    rw [f1] at hER
                                    rw [f2] at hZZ
                                    have hmb := move_back hER
                                    rw [hZZ] at hmb
                                    have hzb : moveE zz xn = 0 → okY (moveE zz xn) (zz.mv (atB zz xn).toNat) = z := fun h => by rw [h, okY_ok, hmb.2, ← hZZ, mv_mv]
                                    have hmb1 := hmb.1
                                    generalize okY (moveE zz xn) (zz.mv (atB zz xn).toNat) = zb at *
                                    generalize moveE zz xn = e2 at *
                                    clear hER hZZ f1 f2 hmb k4 HST
                                    have HZB := Lib.hid (And.intro hmb1 hzb)
                                    clear hmb1 hzb
                                    go_upto_region 45 with fail
                                    go_cut [21, 22] (fun s21 s22 wx => ∃ (b : Nat) (G0 G1 G2 : Option Addr) (g0 g1 g2 : Nat), s21 = .pointer (some ⟨b, 0, none⟩) ∧ s22 = .int .i64 e2 ∧ Blk wx b 41 #[.slice G0 zb.s.length g0, .slice G1 zb.w.length g1, .slice G2 zb.p.length g2] ∧ YdAt wx wx.heap.size G0 G1 G2 zb.s.length zb.w.length zb.p.length zb ∧ Below w11.heap.size w11 wx)
                                    case first =>
                                      as_aux_lemma =>
                                        clear c5 l5
                                        have HP := Lib.hid (Below.refl w11.heap.size w11)
                                        (refine wp_region_calm [] [0, 3, 4] 9 (by kernel_rfl) rfl (by kernel_rfl) (by kernel_rfl) (by kernel_rfl) ?_; simp only [pickB, List.filterMap_cons, List.filterMap_nil, List.getElem?_toArray, List.getElem?_cons_zero, List.getElem?_cons_succ]; (repeat (first | ((with_reducible refine quietL_plain rfl (fun K hK => ?_)); (apply Exists.intro; refine ⟨fun wx hx => ?_, ?_⟩; (· (have hcx := ifs_ex hx); simp [go_sem, *, ↓IntWalk.iteOmega] <;> (first | rfl | exact ⟨rfl, rfl⟩ | fail)); (simp only [Act.put, List.setIfInBounds_toArray, List.set_cons_zero, List.set_cons_succ]; refine hK _ ?_; clear hK K))) | ((with_reducible refine quietL_skip (by with_unfolding_all rfl) ?_); simp only [Act.put, List.setIfInBounds_toArray, List.set_cons_zero, List.set_cons_succ]) | ((with_reducible refine quietL_want (by with_unfolding_all rfl) (fun K hK => ?_)); (apply Exists.intro; refine ⟨fun wx hx => ?_, ?_⟩; (· (have hcx := ifs_ex hx); simp [go_sem, *, ↓IntWalk.iteOmega] <;> (first | rfl | exact ⟨rfl, rfl⟩ | fail)); (simp only [Act.put, List.setIfInBounds_toArray, List.set_cons_zero, List.set_cons_succ]; refine hK _ ?_; clear hK K))))); refine quietL_nil ?_)
                                        refine anyB_two (i := 1) (j := 9) (by kernel_rfl) rfl rfl rfl rfl ?_ ?_
                                        · skip
                                          intro wa hba K hK
                                          have hsa := hba.size
                                          (try simp at hsa)
                                          replace HP := Lib.hid (HP.out.trans (hba.mono HP.out.size))
                                          (try replace BB := Lib.hid (BB.out.kept hba))
                                          (try replace HYz := Lib.hid (yd_kept HYz.out hba))
                                          go_wp2_with fail
                                          refine (HTz.out _ _ _ _ _ _ _ (HSt.out [] (fun x hx => by cases hx) _ (Ex.of_below HP.out))).mono ?_
                                          rintro e wb ⟨F0b, F1b, F2b, f0b, f1b, f2b, rfl, hyd, hbb⟩
                                          have hsb := hbb.size
                                          have HYt := Lib.hid hyd
                                          replace HP := Lib.hid (HP.out.trans (hbb.mono HP.out.size))
                                          (try replace BB := Lib.hid (BB.out.kept hbb))
                                          clear hyd
                                          go_wp2
                                          refine ⟨xs_, ?_⟩
                                          refine anyB_two (i := 2) (j := 9) (by kernel_rfl) rfl rfl rfl rfl ?_ ?_
                                          · skip
                                            intro wc hbc K hK
                                            have hsc := hbc.size
                                            (try simp at hsc)
                                            replace HP := Lib.hid (HP.out.trans (hbc.mono HP.out.size))
                                            (try replace BB := Lib.hid (BB.out.kept hbc))
                                            (try replace HYt := Lib.hid (yd_kept HYt.out hbc))
                                            go_wp2_with fail
                                            refine (HOy.out _ _ _ _ _ _ _ HYt.out).mono ?_
                                            rintro e wd ⟨F0d, F1d, F2d, f0d, f1d, f2d, rfl, hyd, hbd⟩
                                            have hsd := hbd.size
                                            have HYo := Lib.hid hyd
                                            replace HP := Lib.hid (HP.out.trans (hbd.mono HP.out.size))
                                            (try replace BB := Lib.hid (BB.out.kept hbd))
                                            clear hyd
                                            go_wp2
                                            refine ⟨xs_, ?_⟩
                                            refine anyB_two (i := 5) (j := 9) (by kernel_rfl) rfl rfl rfl rfl ?_ ?_
                                            · skip
                                              intro we hbe K hK
                                              have hse := hbe.size
                                              (try simp at hse)
                                              replace HP := Lib.hid (HP.out.trans (hbe.mono HP.out.size))
                                              (try replace BB := Lib.hid (BB.out.kept hbe))
                                              (try replace HYo := Lib.hid (yd_kept HYo.out hbe))
                                              go_wp2_with fail
                                              refine (HMz.out _ _ _ _ _ _ _ HYo.out (HIx.out.low.trans (HP.out.mono HIx.out.low.size))).mono ?_
                                              rintro e wf ⟨F0f, F1f, F2f, f0f, f1f, f2f, rfl, hyd, hbf⟩
                                              have hsf := hbf.size
                                              have HYm := Lib.hid hyd
                                              replace HP := Lib.hid (HP.out.trans (hbf.mono HP.out.size))
                                              (try replace BB := Lib.hid (BB.out.kept hbf))
                                              clear hyd
                                              go_wp2
                                              refine ⟨xs_, ?_⟩
                                              (refine anyB_quiet_at (by kernel_rfl) calm_panic xs_ 3 [6, 7, 8] _ _ (by kernel_rfl) (by decide +kernel) ?_; simp only [pickB, List.filterMap_cons, List.filterMap_nil, List.getElem?_toArray, List.getElem?_cons_zero, List.getElem?_cons_succ]; (repeat ((with_reducible refine quietL_plain rfl (fun K hK => ?_)); (apply Exists.intro; refine ⟨fun wx hx => ?_, ?_⟩; (· (have hcx := ifs_ex hx); simp [go_sem, *, ↓IntWalk.iteOmega] <;> (first | rfl | exact ⟨rfl, rfl⟩ | fail)); (simp only [Act.put, List.setIfInBounds_toArray, List.set_cons_zero, List.set_cons_succ]; refine hK _ ?_; clear hK K)))); refine quietL_nil ?_)
                                              refine anyB_one (i := 9) (by kernel_rfl) rfl rfl ?_
                                              intro wh hbh K hK
                                              have hsh := hbh.size
                                              (try simp at hsh)
                                              replace HP := Lib.hid (HP.out.trans (hbh.mono HP.out.size))
                                              replace HP := Lib.hid (HP.out.alloc HP.out.size (.cells #[.slice none 0 0, .slice none 0 0, .slice none 0 0] 41))
                                              have BB := Lib.hid (Blk.new wh 41 #[.slice none 0 0, .slice none 0 0, .slice none 0 0])
                                              (try replace HYt := Lib.hid (yd_kept (yd_kept HYt.out hbh) ((Below.refl _ wh).alloc (Nat.le_refl _) (.cells #[.slice none 0 0, .slice none 0 0, .slice none 0 0] 41))))
                                              (try replace HYo := Lib.hid (yd_kept (yd_kept HYo.out hbh) ((Below.refl _ wh).alloc (Nat.le_refl _) (.cells #[.slice none 0 0, .slice none 0 0, .slice none 0 0] 41))))
                                              go_wp2
                                              refine ⟨xs_, ?_⟩
                                              refine anyB_one (i := 10) (by kernel_rfl) rfl rfl ?_
                                              intro wi hbi K hK
                                              have hsi := hbi.size
                                              (try simp at hsi)
                                              replace HP := Lib.hid (HP.out.trans (hbi.mono HP.out.size))
                                              replace BB := Lib.hid (BB.out.kept hbi)
                                              have HZ := Lib.hid (HYm.out [wh.heap.size] (fun x hx => by simp at hx; subst hx; first | (left; omega) | (right; omega)))
                                              have cB := BB.out.cell
                                              have fB := BB.out.frozen
                                              have lB := BB.out.lt
                                              go_wp2
                                              refine ⟨xs_, ?_⟩
                                              replace BB := Lib.hid (BB.out.set3 (.slice F0f zb.s.length f0f) (.slice F1f zb.w.length f1f) (.slice F2f zb.p.length f2f))
                                              replace HP := Lib.hid (below_set3 HP.out (show _ ≤ wh.heap.size by omega) (.slice F0f zb.s.length f0f) (.slice F1f zb.w.length f1f) (.slice F2f zb.p.length f2f))
                                              clear cB fB lB HYm
                                              refine anyB_one (i := 11) (by kernel_rfl) rfl rfl ?_
                                              intro wj hbj K hK
                                              have hsj := hbj.size
                                              (try simp at hsj)
                                              go_wp2
                                              refine ⟨xs_, ?_⟩
                                              refine anyB_end (by kernel_rfl) ?_
                                              intro wk hbk
                                              have hsk := hbk.size
                                              simp only [Calm]
                                              replace HP := Lib.hid (HP.out.trans (hbj.mono HP.out.size))
                                              replace HP := Lib.hid (HP.out.trans (hbk.mono HP.out.size))
                                              replace BB := Lib.hid ((BB.out.kept hbj).kept hbk)
                                              have HZk := Lib.hid (HZ.out _ (xs_ : Ex [wh.heap.size] wf wk))
                                              clear HZ
                                              go_wp2_with fail
                                              go_meet
                                              case rel => exact ⟨wh.heap.size, F0f, F1f, F2f, f0f, f1f, f2f, rfl, rfl, BB.out, HZk.out, HP.out⟩
                                            · skip
                                              intro wh hbh K hK
                                              have hsh := hbh.size
                                              (try simp at hsh)
                                              replace HP := Lib.hid (HP.out.trans (hbh.mono HP.out.size))
                                              replace HP := Lib.hid (HP.out.alloc HP.out.size (.cells #[.slice none 0 0, .slice none 0 0, .slice none 0 0] 41))
                                              have BB := Lib.hid (Blk.new wh 41 #[.slice none 0 0, .slice none 0 0, .slice none 0 0])
                                              (try replace HYt := Lib.hid (yd_kept (yd_kept HYt.out hbh) ((Below.refl _ wh).alloc (Nat.le_refl _) (.cells #[.slice none 0 0, .slice none 0 0, .slice none 0 0] 41))))
                                              (try replace HYo := Lib.hid (yd_kept (yd_kept HYo.out hbh) ((Below.refl _ wh).alloc (Nat.le_refl _) (.cells #[.slice none 0 0, .slice none 0 0, .slice none 0 0] 41))))
                                              go_wp2
                                              refine ⟨xs_, ?_⟩
                                              refine anyB_one (i := 5) (by kernel_rfl) rfl rfl ?_
                                              intro we hbe K hK
                                              have hse := hbe.size
                                              (try simp at hse)
                                              replace HP := Lib.hid (HP.out.trans (hbe.mono HP.out.size))
                                              (try replace BB := Lib.hid (BB.out.kept hbe))
                                              (try replace HYo := Lib.hid (yd_kept HYo.out hbe))
                                              go_wp2_with fail
                                              refine (HMz.out _ _ _ _ _ _ _ HYo.out (HIx.out.low.trans (HP.out.mono HIx.out.low.size))).mono ?_
                                              rintro e wf ⟨F0f, F1f, F2f, f0f, f1f, f2f, rfl, hyd, hbf⟩
                                              have hsf := hbf.size
                                              have HYm := Lib.hid hyd
                                              replace HP := Lib.hid (HP.out.trans (hbf.mono HP.out.size))
                                              (try replace BB := Lib.hid (BB.out.kept hbf))
                                              clear hyd
                                              go_wp2
                                              refine ⟨xs_, ?_⟩
                                              (refine anyB_quiet_at (by kernel_rfl) calm_panic xs_ 2 [6, 7, 8] _ _ (by kernel_rfl) (by decide +kernel) ?_; simp only [pickB, List.filterMap_cons, List.filterMap_nil, List.getElem?_toArray, List.getElem?_cons_zero, List.getElem?_cons_succ]; (repeat ((with_reducible refine quietL_plain rfl (fun K hK => ?_)); (apply Exists.intro; refine ⟨fun wx hx => ?_, ?_⟩; (· (have hcx := ifs_ex hx); simp [go_sem, *, ↓IntWalk.iteOmega] <;> (first | rfl | exact ⟨rfl, rfl⟩ | fail)); (simp only [Act.put, List.setIfInBounds_toArray, List.set_cons_zero, List.set_cons_succ]; refine hK _ ?_; clear hK K)))); refine quietL_nil ?_)
                                              refine anyB_one (i := 10) (by kernel_rfl) rfl rfl ?_
                                              intro wi hbi K hK
                                              have hsi := hbi.size
                                              (try simp at hsi)
                                              replace HP := Lib.hid (HP.out.trans (hbi.mono HP.out.size))
                                              replace BB := Lib.hid (BB.out.kept hbi)
                                              have HZ := Lib.hid (HYm.out [wh.heap.size] (fun x hx => by simp at hx; subst hx; first | (left; omega) | (right; omega)))
                                              have cB := BB.out.cell
                                              have fB := BB.out.frozen
                                              have lB := BB.out.lt
                                              go_wp2
                                              refine ⟨xs_, ?_⟩
                                              replace BB := Lib.hid (BB.out.set3 (.slice F0f zb.s.length f0f) (.slice F1f zb.w.length f1f) (.slice F2f zb.p.length f2f))
                                              replace HP := Lib.hid (below_set3 HP.out (show _ ≤ wh.heap.size by omega) (.slice F0f zb.s.length f0f) (.slice F1f zb.w.length f1f) (.slice F2f zb.p.length f2f))
                                              clear cB fB lB HYm
                                              refine anyB_one (i := 11) (by kernel_rfl) rfl rfl ?_
                                              intro wj hbj K hK
                                              have hsj := hbj.size
                                              (try simp at hsj)
                                              go_wp2
                                              refine ⟨xs_, ?_⟩
                                              refine anyB_end (by kernel_rfl) ?_
                                              intro wk hbk
                                              have hsk := hbk.size
                                              simp only [Calm]
                                              replace HP := Lib.hid (HP.out.trans (hbj.mono HP.out.size))
                                              replace HP := Lib.hid (HP.out.trans (hbk.mono HP.out.size))
                                              replace BB := Lib.hid ((BB.out.kept hbj).kept hbk)
                                              have HZk := Lib.hid (HZ.out _ (xs_ : Ex [wh.heap.size] wf wk))
                                              clear HZ
                                              go_wp2_with fail
                                              go_meet
                                              case rel => exact ⟨wh.heap.size, F0f, F1f, F2f, f0f, f1f, f2f, rfl, rfl, BB.out, HZk.out, HP.out⟩
                                          · skip
                                            intro wh hbh K hK
                                            have hsh := hbh.size
                                            (try simp at hsh)
                                            replace HP := Lib.hid (HP.out.trans (hbh.mono HP.out.size))
                                            replace HP := Lib.hid (HP.out.alloc HP.out.size (.cells #[.slice none 0 0, .slice none 0 0, .slice none 0 0] 41))
                                            have BB := Lib.hid (Blk.new wh 41 #[.slice none 0 0, .slice none 0 0, .slice none 0 0])
                                            (try replace HYt := Lib.hid (yd_kept (yd_kept HYt.out hbh) ((Below.refl _ wh).alloc (Nat.le_refl _) (.cells #[.slice none 0 0, .slice none 0 0, .slice none 0 0] 41))))
                                            (try replace HYo := Lib.hid (yd_kept (yd_kept HYo.out hbh) ((Below.refl _ wh).alloc (Nat.le_refl _) (.cells #[.slice none 0 0, .slice none 0 0, .slice none 0 0] 41))))
                                            go_wp2
                                            refine ⟨xs_, ?_⟩
                                            refine anyB_one (i := 2) (by kernel_rfl) rfl rfl ?_
                                            intro wc hbc K hK
                                            have hsc := hbc.size
                                            (try simp at hsc)
                                            replace HP := Lib.hid (HP.out.trans (hbc.mono HP.out.size))
                                            (try replace BB := Lib.hid (BB.out.kept hbc))
                                            (try replace HYt := Lib.hid (yd_kept HYt.out hbc))
                                            go_wp2_with fail
                                            refine (HOy.out _ _ _ _ _ _ _ HYt.out).mono ?_
                                            rintro e wd ⟨F0d, F1d, F2d, f0d, f1d, f2d, rfl, hyd, hbd⟩
                                            have hsd := hbd.size
                                            have HYo := Lib.hid hyd
                                            replace HP := Lib.hid (HP.out.trans (hbd.mono HP.out.size))
                                            (try replace BB := Lib.hid (BB.out.kept hbd))
                                            clear hyd
                                            go_wp2
                                            refine ⟨xs_, ?_⟩
                                            refine anyB_one (i := 5) (by kernel_rfl) rfl rfl ?_
                                            intro we hbe K hK
                                            have hse := hbe.size
                                            (try simp at hse)
                                            replace HP := Lib.hid (HP.out.trans (hbe.mono HP.out.size))
                                            (try replace BB := Lib.hid (BB.out.kept hbe))
                                            (try replace HYo := Lib.hid (yd_kept HYo.out hbe))
                                            go_wp2_with fail
                                            refine (HMz.out _ _ _ _ _ _ _ HYo.out (HIx.out.low.trans (HP.out.mono HIx.out.low.size))).mono ?_
                                            rintro e wf ⟨F0f, F1f, F2f, f0f, f1f, f2f, rfl, hyd, hbf⟩
                                            have hsf := hbf.size
                                            have HYm := Lib.hid hyd
                                            replace HP := Lib.hid (HP.out.trans (hbf.mono HP.out.size))
                                            (try replace BB := Lib.hid (BB.out.kept hbf))
                                            clear hyd
                                            go_wp2
                                            refine ⟨xs_, ?_⟩
                                            (refine anyB_quiet_at (by kernel_rfl) calm_panic xs_ 2 [6, 7, 8] _ _ (by kernel_rfl) (by decide +kernel) ?_; simp only [pickB, List.filterMap_cons, List.filterMap_nil, List.getElem?_toArray, List.getElem?_cons_zero, List.getElem?_cons_succ]; (repeat ((with_reducible refine quietL_plain rfl (fun K hK => ?_)); (apply Exists.intro; refine ⟨fun wx hx => ?_, ?_⟩; (· (have hcx := ifs_ex hx); simp [go_sem, *, ↓IntWalk.iteOmega] <;> (first | rfl | exact ⟨rfl, rfl⟩ | fail)); (simp only [Act.put, List.setIfInBounds_toArray, List.set_cons_zero, List.set_cons_succ]; refine hK _ ?_; clear hK K)))); refine quietL_nil ?_)
                                            refine anyB_one (i := 10) (by kernel_rfl) rfl rfl ?_
                                            intro wi hbi K hK
                                            have hsi := hbi.size
                                            (try simp at hsi)
                                            replace HP := Lib.hid (HP.out.trans (hbi.mono HP.out.size))
                                            replace BB := Lib.hid (BB.out.kept hbi)
                                            have HZ := Lib.hid (HYm.out [wh.heap.size] (fun x hx => by simp at hx; subst hx; first | (left; omega) | (right; omega)))
                                            have cB := BB.out.cell
                                            have fB := BB.out.frozen
                                            have lB := BB.out.lt
                                            go_wp2
                                            refine ⟨xs_, ?_⟩
                                            replace BB := Lib.hid (BB.out.set3 (.slice F0f zb.s.length f0f) (.slice F1f zb.w.length f1f) (.slice F2f zb.p.length f2f))
                                            replace HP := Lib.hid (below_set3 HP.out (show _ ≤ wh.heap.size by omega) (.slice F0f zb.s.length f0f) (.slice F1f zb.w.length f1f) (.slice F2f zb.p.length f2f))
                                            clear cB fB lB HYm
                                            refine anyB_one (i := 11) (by kernel_rfl) rfl rfl ?_
                                            intro wj hbj K hK
                                            have hsj := hbj.size
                                            (try simp at hsj)
                                            go_wp2
                                            refine ⟨xs_, ?_⟩
                                            refine anyB_end (by kernel_rfl) ?_
                                            intro wk hbk
                                            have hsk := hbk.size
                                            simp only [Calm]
                                            replace HP := Lib.hid (HP.out.trans (hbj.mono HP.out.size))
                                            replace HP := Lib.hid (HP.out.trans (hbk.mono HP.out.size))
                                            replace BB := Lib.hid ((BB.out.kept hbj).kept hbk)
                                            have HZk := Lib.hid (HZ.out _ (xs_ : Ex [wh.heap.size] wf wk))
                                            clear HZ
                                            go_wp2_with fail
                                            go_meet
                                            case rel => exact ⟨wh.heap.size, F0f, F1f, F2f, f0f, f1f, f2f, rfl, rfl, BB.out, HZk.out, HP.out⟩
                                        · skip
                                          intro wh hbh K hK
                                          have hsh := hbh.size
                                          (try simp at hsh)
                                          replace HP := Lib.hid (HP.out.trans (hbh.mono HP.out.size))
                                          replace HP := Lib.hid (HP.out.alloc HP.out.size (.cells #[.slice none 0 0, .slice none 0 0, .slice none 0 0] 41))
                                          have BB := Lib.hid (Blk.new wh 41 #[.slice none 0 0, .slice none 0 0, .slice none 0 0])
                                          (try replace HYt := Lib.hid (yd_kept (yd_kept HYt.out hbh) ((Below.refl _ wh).alloc (Nat.le_refl _) (.cells #[.slice none 0 0, .slice none 0 0, .slice none 0 0] 41))))
                                          (try replace HYo := Lib.hid (yd_kept (yd_kept HYo.out hbh) ((Below.refl _ wh).alloc (Nat.le_refl _) (.cells #[.slice none 0 0, .slice none 0 0, .slice none 0 0] 41))))
                                          go_wp2
                                          refine ⟨xs_, ?_⟩
                                          refine anyB_one (i := 1) (by kernel_rfl) rfl rfl ?_
                                          intro wa hba K hK
                                          have hsa := hba.size
                                          (try simp at hsa)
                                          replace HP := Lib.hid (HP.out.trans (hba.mono HP.out.size))
                                          (try replace BB := Lib.hid (BB.out.kept hba))
                                          (try replace HYz := Lib.hid (yd_kept HYz.out hba))
                                          go_wp2_with fail
                                          refine (HTz.out _ _ _ _ _ _ _ (HSt.out [] (fun x hx => by cases hx) _ (Ex.of_below HP.out))).mono ?_
                                          rintro e wb ⟨F0b, F1b, F2b, f0b, f1b, f2b, rfl, hyd, hbb⟩
                                          have hsb := hbb.size
                                          have HYt := Lib.hid hyd
                                          replace HP := Lib.hid (HP.out.trans (hbb.mono HP.out.size))
                                          (try replace BB := Lib.hid (BB.out.kept hbb))
                                          clear hyd
                                          go_wp2
                                          refine ⟨xs_, ?_⟩
                                          refine anyB_one (i := 2) (by kernel_rfl) rfl rfl ?_
                                          intro wc hbc K hK
                                          have hsc := hbc.size
                                          (try simp at hsc)
                                          replace HP := Lib.hid (HP.out.trans (hbc.mono HP.out.size))
                                          (try replace BB := Lib.hid (BB.out.kept hbc))
                                          (try replace HYt := Lib.hid (yd_kept HYt.out hbc))
                                          go_wp2_with fail
                                          refine (HOy.out _ _ _ _ _ _ _ HYt.out).mono ?_
                                          rintro e wd ⟨F0d, F1d, F2d, f0d, f1d, f2d, rfl, hyd, hbd⟩
                                          have hsd := hbd.size
                                          have HYo := Lib.hid hyd
                                          replace HP := Lib.hid (HP.out.trans (hbd.mono HP.out.size))
                                          (try replace BB := Lib.hid (BB.out.kept hbd))
                                          clear hyd
                                          go_wp2
                                          refine ⟨xs_, ?_⟩
                                          refine anyB_one (i := 5) (by kernel_rfl) rfl rfl ?_
                                          intro we hbe K hK
                                          have hse := hbe.size
                                          (try simp at hse)
                                          replace HP := Lib.hid (HP.out.trans (hbe.mono HP.out.size))
                                          (try replace BB := Lib.hid (BB.out.kept hbe))
                                          (try replace HYo := Lib.hid (yd_kept HYo.out hbe))
                                          go_wp2_with fail
                                          refine (HMz.out _ _ _ _ _ _ _ HYo.out (HIx.out.low.trans (HP.out.mono HIx.out.low.size))).mono ?_
                                          rintro e wf ⟨F0f, F1f, F2f, f0f, f1f, f2f, rfl, hyd, hbf⟩
                                          have hsf := hbf.size
                                          have HYm := Lib.hid hyd
                                          replace HP := Lib.hid (HP.out.trans (hbf.mono HP.out.size))
                                          (try replace BB := Lib.hid (BB.out.kept hbf))
                                          clear hyd
                                          go_wp2
                                          refine ⟨xs_, ?_⟩
                                          (refine anyB_quiet_at (by kernel_rfl) calm_panic xs_ 2 [6, 7, 8] _ _ (by kernel_rfl) (by decide +kernel) ?_; simp only [pickB, List.filterMap_cons, List.filterMap_nil, List.getElem?_toArray, List.getElem?_cons_zero, List.getElem?_cons_succ]; (repeat ((with_reducible refine quietL_plain rfl (fun K hK => ?_)); (apply Exists.intro; refine ⟨fun wx hx => ?_, ?_⟩; (· (have hcx := ifs_ex hx); simp [go_sem, *, ↓IntWalk.iteOmega] <;> (first | rfl | exact ⟨rfl, rfl⟩ | fail)); (simp only [Act.put, List.setIfInBounds_toArray, List.set_cons_zero, List.set_cons_succ]; refine hK _ ?_; clear hK K)))); refine quietL_nil ?_)
                                          refine anyB_one (i := 10) (by kernel_rfl) rfl rfl ?_
                                          intro wi hbi K hK
                                          have hsi := hbi.size
                                          (try simp at hsi)
                                          replace HP := Lib.hid (HP.out.trans (hbi.mono HP.out.size))
                                          replace BB := Lib.hid (BB.out.kept hbi)
                                          have HZ := Lib.hid (HYm.out [wh.heap.size] (fun x hx => by simp at hx; subst hx; first | (left; omega) | (right; omega)))
                                          have cB := BB.out.cell
                                          have fB := BB.out.frozen
                                          have lB := BB.out.lt
                                          go_wp2
                                          refine ⟨xs_, ?_⟩
                                          replace BB := Lib.hid (BB.out.set3 (.slice F0f zb.s.length f0f) (.slice F1f zb.w.length f1f) (.slice F2f zb.p.length f2f))
                                          replace HP := Lib.hid (below_set3 HP.out (show _ ≤ wh.heap.size by omega) (.slice F0f zb.s.length f0f) (.slice F1f zb.w.length f1f) (.slice F2f zb.p.length f2f))
                                          clear cB fB lB HYm
                                          refine anyB_one (i := 11) (by kernel_rfl) rfl rfl ?_
                                          intro wj hbj K hK
                                          have hsj := hbj.size
                                          (try simp at hsj)
                                          go_wp2
                                          refine ⟨xs_, ?_⟩
                                          refine anyB_end (by kernel_rfl) ?_
                                          intro wk hbk
                                          have hsk := hbk.size
                                          simp only [Calm]
                                          replace HP := Lib.hid (HP.out.trans (hbj.mono HP.out.size))
                                          replace HP := Lib.hid (HP.out.trans (hbk.mono HP.out.size))
                                          replace BB := Lib.hid ((BB.out.kept hbj).kept hbk)
                                          have HZk := Lib.hid (HZ.out _ (xs_ : Ex [wh.heap.size] wf wk))
                                          clear HZ
                                          go_wp2_with fail
                                          go_meet
                                          case rel => exact ⟨wh.heap.size, F0f, F1f, F2f, f0f, f1f, f2f, rfl, rfl, BB.out, HZk.out, HP.out⟩
                                    rename World => wm
                                    obtain ⟨bm, G0, G1, G2, g0, g1, g2, rfl, rfl, hbm, hym, hbw⟩ := hcut
                                    have hsm := hbw.size
                                    clear c5 l5 cY lY c9 l9 c8 l8
                                    have c5 := (HIx.out.blk.kept hbw).cell
                                    have l5 := (HIx.out.blk.kept hbw).lt
                                    have cm := hbm.cell
                                    have lm := hbm.lt
                                    have HYb := Lib.hid hym
                                    have HBm := Lib.hid hbw
                                    clear hym
                                    rcases HZB.out.1 with rfl | rfl
                                    · obtain rfl : zb = z := HZB.out.2 rfl
                                      as_aux_lemma =>
                                        clear HZB hbw
                                        go_wp2_with fail
                                        (refine wp_region_calm [] [0, 1, 2, 3, 5] 13 (by kernel_rfl) rfl (by kernel_rfl) (by kernel_rfl) (by kernel_rfl) ?_; simp only [pickB, List.filterMap_cons, List.filterMap_nil, List.getElem?_toArray, List.getElem?_cons_zero, List.getElem?_cons_succ]; (repeat (first | ((with_reducible refine quietL_plain rfl (fun K hK => ?_)); (apply Exists.intro; refine ⟨fun wx hx => ?_, ?_⟩; (· (have hcx := ifs_ex hx); simp [go_sem, *, ↓IntWalk.iteOmega] <;> (first | rfl | exact ⟨rfl, rfl⟩ | fail)); (simp only [Act.put, List.setIfInBounds_toArray, List.set_cons_zero, List.set_cons_succ]; refine hK _ ?_; clear hK K))) | ((with_reducible refine quietL_skip (by with_unfolding_all rfl) ?_); simp only [Act.put, List.setIfInBounds_toArray, List.set_cons_zero, List.set_cons_succ]) | ((with_reducible refine quietL_want (by with_unfolding_all rfl) (fun K hK => ?_)); (apply Exists.intro; refine ⟨fun wx hx => ?_, ?_⟩; (· (have hcx := ifs_ex hx); simp [go_sem, *, ↓IntWalk.iteOmega] <;> (first | rfl | exact ⟨rfl, rfl⟩ | fail)); (simp only [Act.put, List.setIfInBounds_toArray, List.set_cons_zero, List.set_cons_succ]; refine hK _ ?_; clear hK K))))); refine quietL_nil ?_)
                                        (refine anyB_one_want (i := 4) (by kernel_rfl) rfl (by kernel_rfl) ?_; intro wa hba K hK; have hsa := hba.size; (try simp at hsa); go_wp2_with fail)
                                        refine (HTn.out _ _ _ _ _ _ _ (yd_kept HYb.out hba)).mono ?_
                                        rintro e wb ⟨F0, F1, F2, f0, f1, f2, rfl, hyd, hbb⟩
                                        have hsb := hbb.size
                                        have HY1 := Lib.hid hyd
                                        clear hyd
                                        (go_wp2; refine ⟨xs_, ?_⟩)
                                        (refine anyB_one_want (i := 6) (by kernel_rfl) rfl (by kernel_rfl) ?_; intro wc hbc K hK; have hsc := hbc.size; (try simp at hsc); go_wp2_with fail)
                                        refine (HTn.out _ _ _ _ _ _ _ (HIx.out.yd _ (Ex.of_below (HBm.out.trans ((hba.trans ((hbb.trans (hbc.mono hbb.size)).mono hba.size)).mono HBm.out.size))))).mono ?_
                                        rintro e wd ⟨F0', F1', F2', f0', f1', f2', rfl, hyd, hbd⟩
                                        have hsd := hbd.size
                                        have HY2 := Lib.hid hyd
                                        clear hyd
                                        (go_wp2; refine ⟨xs_, ?_⟩)
                                        (refine anyB_one_want (i := 7) (by kernel_rfl) rfl (by kernel_rfl) ?_; intro we hbe K hK; have hse := hbe.size; (try simp at hse); go_wp2_with fail)
                                        refine (HSaz.out _ _ _ _ _ _ _ _ _ _ _ _ _ (yd_kept (yd_kept (yd_kept HY1.out hbc) hbd) hbe) (yd_kept HY2.out hbe)).mono ?_
                                        rintro e wf ⟨rfl, hbf⟩
                                        have hsf := hbf.size
                                        (go_wp2; refine ⟨xs_, ?_⟩)
                                        (refine anyB_quiet_at (by kernel_rfl) calm_panic xs_ 0 [8, 9, 10, 11, 12, 13, 14, 15, 16, 17] _ _ (by kernel_rfl) (by decide +kernel) ?_; simp only [pickB, List.filterMap_cons, List.filterMap_nil, List.getElem?_toArray, List.getElem?_cons_zero, List.getElem?_cons_succ]; (repeat (first | ((with_reducible refine quietL_plain rfl (fun K hK => ?_)); (apply Exists.intro; refine ⟨fun wx hx => ?_, ?_⟩; (· (have hcx := ifs_ex hx); simp [go_sem, *, ↓IntWalk.iteOmega] <;> (first | rfl | exact ⟨rfl, rfl⟩ | fail)); (simp only [Act.put, List.setIfInBounds_toArray, List.set_cons_zero, List.set_cons_succ]; refine hK _ ?_; clear hK K))) | ((with_reducible refine quietL_skip (by with_unfolding_all rfl) ?_); simp only [Act.put, List.setIfInBounds_toArray, List.set_cons_zero, List.set_cons_succ]) | ((with_reducible refine quietL_want (by with_unfolding_all rfl) (fun K hK => ?_)); (apply Exists.intro; refine ⟨fun wx hx => ?_, ?_⟩; (· (have hcx := ifs_ex hx); simp [go_sem, *, ↓IntWalk.iteOmega] <;> (first | rfl | exact ⟨rfl, rfl⟩ | fail)); (simp only [Act.put, List.setIfInBounds_toArray, List.set_cons_zero, List.set_cons_succ]; refine hK _ ?_; clear hK K))))); refine quietL_nil ?_)
                                        (refine anyB_end (by kernel_rfl) ?_; intro wg hbg; have hsg := hbg.size; (try simp at hsg); simp only [Calm])
                                        go_wp2_with fail
                                        go_meet
                                        case rel => exact HBm.out.trans ((hba.trans ((hbb.trans ((hbc.trans ((hbd.trans ((hbe.trans ((hbf.trans (hbg.mono hbf.size)).mono hbe.size)).mono hbd.size)).mono hbc.size)).mono hbb.size)).mono hba.size)).mono HBm.out.size)
                                    · skip
                                      as_aux_lemma =>
                                        clear HZB hbw
                                        go_wp2_with fail
                                        (refine wp_region_calm [] [0, 1, 2, 3, 4, 5, 6, 7, 8, 9, 10, 11, 12, 13, 14, 15, 16, 17] 0 (by kernel_rfl) rfl (by kernel_rfl) (by kernel_rfl) (by kernel_rfl) ?_; simp only [pickB, List.filterMap_cons, List.filterMap_nil, List.getElem?_toArray, List.getElem?_cons_zero, List.getElem?_cons_succ]; (repeat (first | ((with_reducible refine quietL_plain rfl (fun K hK => ?_)); (apply Exists.intro; refine ⟨fun wx hx => ?_, ?_⟩; (· (have hcx := ifs_ex hx); simp [go_sem, *, ↓IntWalk.iteOmega] <;> (first | rfl | exact ⟨rfl, rfl⟩ | fail)); (simp only [Act.put, List.setIfInBounds_toArray, List.set_cons_zero, List.set_cons_succ]; refine hK _ ?_; clear hK K))) | ((with_reducible refine quietL_skip (by with_unfolding_all rfl) ?_); simp only [Act.put, List.setIfInBounds_toArray, List.set_cons_zero, List.set_cons_succ]) | ((with_reducible refine quietL_want (by with_unfolding_all rfl) (fun K hK => ?_)); (apply Exists.intro; refine ⟨fun wx hx => ?_, ?_⟩; (· (have hcx := ifs_ex hx); simp [go_sem, *, ↓IntWalk.iteOmega] <;> (first | rfl | exact ⟨rfl, rfl⟩ | fail)); (simp only [Act.put, List.setIfInBounds_toArray, List.set_cons_zero, List.set_cons_succ]; refine hK _ ?_; clear hK K))))); refine quietL_nil ?_)
                                        (refine anyB_end (by kernel_rfl) ?_; intro wg hbg; have hsg := hbg.size; (try simp at hsg); simp only [Calm])
                                        go_wp2_with fail
                                        go_meet
                                        case rel => exact HBm.out.trans (hbg.mono HBm.out.size)
                              rename World => w12
                              have hb12 : Below w11.heap.size w11 w12 := hcut
                              clear hcut
                              have hs12 := hb12.size
                              replace HIx := Lib.hid (HIx.out.kept hb12 (k + 1) (Nat.le_refl _))
                              replace B9 := Lib.hid (B9.out.kept hb12)
                              replace B8 := Lib.hid (B8.out.kept hb12)
                              replace HSt := Lib.hid (stay_kept HSt.out hb12)
                              (try replace HRn := Lib.hid (rd_kept HRn.out hb12))
                              (try replace HRa := Lib.hid (rd_kept HRa.out hb12))
                              clear c5 l5 cY lY c9 l9 c8 l8
                              have c5 := HIx.out.blk.cell
                              have l5 := HIx.out.blk.lt
                              have cY := HIx.out.box.cell
                              have lY := HIx.out.box.lt
                              have c9 := B9.out.cell
                              have l9 := B9.out.lt
                              have c8 := B8.out.cell
                              have l8 := B8.out.lt
                              as_aux_lemma =>
                                have f5 := HIx.out.blk.frozen
                                go_upto_region 49 with fail
                                have hsw : (((w12.setCell ⟨w4.heap.size, 0, none⟩ (.slice E0 n0 e0)).setCell ⟨w4.heap.size, 1, none⟩ (.slice E1 n1 e1)).setCell ⟨w4.heap.size, 2, none⟩ (.slice E2 zz.p.length e2)).heap.size = w12.heap.size := by simp [World.setCell]
                                have h45 : w.heap.size < w4.heap.size := hlY
                                have hrow := HIx.out.row.kept (grown_set3 w12 w4.heap.size (.slice E0 n0 e0) (.slice E1 n1 e1) (.slice E2 zz.p.length e2)) (.inr (row_own_neW HIx.out.row HIx.out.blk (by decide)))
                                have hblk := HIx.out.blk.set3 (.slice E0 n0 e0) (.slice E1 n1 e1) (.slice E2 zz.p.length e2)
                                have hst := stay_set3 (w := wa) (b := w4.heap.size) HSt.out (Nat.le_refl _) h4a (.slice E0 n0 e0) (.slice E1 n1 e1) (.slice E2 zz.p.length e2)
                                have hbox := HIx.out.box.far3 (show w.heap.size ≠ w4.heap.size by omega) (.slice E0 n0 e0) (.slice E1 n1 e1) (.slice E2 zz.p.length e2)
                                have hb8 := B8.out.far3 (show wr.heap.size ≠ w4.heap.size by omega) (.slice E0 n0 e0) (.slice E1 n1 e1) (.slice E2 zz.p.length e2)
                                have hlow := below_set3 HIx.out.low (show w.heap.size ≤ w4.heap.size by omega) (.slice E0 n0 e0) (.slice E1 n1 e1) (.slice E2 zz.p.length e2)
                                generalize (((w12.setCell ⟨w4.heap.size, 0, none⟩ (.slice E0 n0 e0)).setCell ⟨w4.heap.size, 1, none⟩ (.slice E1 n1 e1)).setCell ⟨w4.heap.size, 2, none⟩ (.slice E2 zz.p.length e2)) = ws at *
                                clear c5 l5 cY lY c9 l9 c8 l8 f5
                                have c8 := hb8.cell
                                have l8 := hb8.lt
                                have HSW := Lib.hid hsw
                                clear hsw
                                have HRW := Lib.hid hrow
                                have HBK := Lib.hid hblk
                                have HSS := Lib.hid hst
                                have HBX := Lib.hid hbox
                                have HLW := Lib.hid hlow
                                have hdk := HDK.out
                                clear hrow hblk hst hbox hb8 hlow
                                go_wp2_with (at_builtin; refine wpList_appB 105 116 3 48 elemAcR rfl (.tmp 253) (.tmp 255) rfl w.heap.size u6 dl.length (acs dl) rfl (World.ownsRow.alloc HRW.out _) ws.heap.size 1 #[.string xk, .string xn, .string xs] rfl (Blk.new _ _ _) rfl ?h1 (by decide) ?h3 ?h4 ?h5 ?_)
                                case h1 => exact ⟨rfl, rfl, rfl⟩
                                case h3 => unfold maxLen; omega
                                case h4 => omega
                                case h5 => have := HLW.out.size; simp; omega
                                intro g' cap' w7' hown7 hg7 hat7
                                have hg6 : ws.grownBy w7' u6.ownBlock := World.grownBy_trans_alloc hg7
                                have hat8 : u6.ownBlock = some g' ∨ ws.heap.size ≤ g' := by
                                  rcases hat7 with h | h
                                  · exact .inl h
                                  · right; rw [h]; simp
                                obtain ⟨_, a4, a5, q0, q1, q2⟩ := HA.out
                                have hplay := play_snoc dl y 0 z ⟨xk, xn, xs⟩ HIx.out.play (nv_act HST.out.1)
                                rw [HST.out.2] at hplay
                                have HN := Lib.hid (NvI.next HRW.out HBK.out HSS.out HIx.out.own hga h4a HBX.out HLW.out q0 q1 a4 a5 (by rw [q0, HL0.out]) (by rw [q1, HL1.out]) hplay hdk HIx.out.sz HXs.out (x := ⟨xk, xn, xs⟩) hown7 hg6 hat8)
                                clear hown7 hg7 hat7 hg6 hat8 hplay a4 a5 q0 q1 q2
                                go_wp2
                                go_roundw
                                case rel => exact ⟨k + 1, zz, E0, E1, E2, e0, e1, e2, _, g', by go_num, by omega, HN.out⟩
                                case measure => simp [intOf]; omega
              · skip
                as_aux_lemma =>
                  obtain rfl : k = n := by omega
                  have HZL := Lib.hid (fits_len HI.out.fit)
                  have HTn := Lib.hid (HTd.out z HZL.out)
                  have HSaz := Lib.hid (HSm2.out z HZL.out)
                  have hdk := HI.out.dk
                  have hpr : playR y dl = (z, 0, 0) := by
                    have hh : plHead y dl.length = 0 := by
                      unfold plHead
                      rw [HG0.out.1, decide_eq_false (show ¬ (64 < (dl.length : Int)) by omega)]
                      rfl
                    unfold playR
                    rw [if_pos hh, HI.out.play]
                  have HPl := Lib.hid (fun W D0 D1 D2 d0 d1 d2 A' c' (hy : YdAt W W.heap.size D0 D1 D2 y.s.length y.w.length y.p.length y) (hr' : Reads W W.heap.size 3 A' dl.length (acs dl)) (hW : Below w.heap.size w W) => Play_any W.heap.size D0 D1 D2 y.s.length y.w.length y.p.length d0 d1 d2 y W hy (Nat.le_refl _) (HT.out W hW) HG0.out.2 A' dl.length c' dl hr' (by omega) HI.out.sz)
                  rw [hpr] at HPl
                  have HAc := Lib.hid (fun W A' c' (hr' : Reads W W.heap.size 3 A' dl.length (acs dl)) => acts_any W.heap.size A' dl.length c' dl W hr' (Nat.le_refl _) (by omega))
                  obtain ⟨A', cap', rfl, _, _, hrd⟩ := own_form HI.out.row
                  have HRD := Lib.hid hrd
                  clear hrd hpr hdk
                  go_wp2_with fail
                  refine (HO.out _ HI.out.low).mono ?_
                  rintro e w1 ⟨F0, F1, F2, f0, f1, f2, rfl, hO, hb1⟩
                  have hs1 := hb1.size
                  have HY1 := Lib.hid hO.yd
                  have HI1 := Lib.hid (HI.out.kept hb1 k (Nat.le_refl _))
                  clear hO
                  go_wp2_with fail
                  refine (HAc.out _ _ _ (rd_kept HRD.out hb1)).mono ?_
                  rintro e w2 ⟨A2', cap2, rfl, hr2, hb2⟩
                  have hs2 := hb2.size
                  have HR2 := Lib.hid hr2
                  have HY2 := Lib.hid (yd_kept HY1.out hb2)
                  have HI2 := Lib.hid (HI1.out.kept hb2 k (Nat.le_refl _))
                  clear hr2 HY1 HI1
                  go_wp2_with fail
                  refine (HPl.out _ _ _ _ _ _ _ _ _ HY2.out HR2.out HI2.out.low).mono ?_
                  rintro e w3 ⟨G0, G1, G2, g0, g1, g2, rfl, hyG, hb3⟩
                  have hs3 := hb3.size
                  dsimp only at hyG
                  have HYG := Lib.hid hyG
                  have HI3 := Lib.hid (HI2.out.kept hb3 k (Nat.le_refl _))
                  clear hyG HI2 HY2 HR2
                  dsimp only
                  go_upto_region 52 with fail
                  have BE := Lib.hid (Blk.new w3 41 #[.slice G0 z.s.length g0, .slice G1 z.w.length g1, .slice G2 z.p.length g2])
                  have hba : Below w3.heap.size w3 (w3.alloc (.cells #[.slice G0 z.s.length g0, .slice G1 z.w.length g1, .slice G2 z.p.length g2] 41)) := (Below.refl _ w3).alloc (Nat.le_refl _) _
                  have HI4 := Lib.hid (HI3.out.kept hba k (Nat.le_refl _))
                  have HY4 := Lib.hid (yd_kept HYG.out hba)
                  have hs4x : (w3.alloc (.cells #[.slice G0 z.s.length g0, .slice G1 z.w.length g1, .slice G2 z.p.length g2] 41)).heap.size = w3.heap.size + 1 := by simp
                  generalize (w3.alloc (.cells #[.slice G0 z.s.length g0, .slice G1 z.w.length g1, .slice G2 z.p.length g2] 41)) = wg at *
                  clear c5 l5 cY lY
                  have c5 := HI4.out.blk.cell
                  have l5 := HI4.out.blk.lt
                  have cE := BE.out.cell
                  have lE := BE.out.lt
                  clear hba
                  (refine wp_region_calm [] [0, 1, 2, 3, 4, 5, 6, 7, 9] 5 (by kernel_rfl) rfl (by kernel_rfl) (by kernel_rfl) (by kernel_rfl) ?_; simp only [pickB, List.filterMap_cons, List.filterMap_nil, List.getElem?_toArray, List.getElem?_cons_zero, List.getElem?_cons_succ]; (repeat (first | ((with_reducible refine quietL_plain rfl (fun K hK => ?_)); (apply Exists.intro; refine ⟨fun wx hx => ?_, ?_⟩; (· (have hcx := ifs_ex hx); simp [go_sem, *, ↓IntWalk.iteOmega] <;> (first | rfl | exact ⟨rfl, rfl⟩ | fail)); (simp only [Act.put, List.setIfInBounds_toArray, List.set_cons_zero, List.set_cons_succ]; refine hK _ ?_; clear hK K))) | ((with_reducible refine quietL_skip (by with_unfolding_all rfl) ?_); simp only [Act.put, List.setIfInBounds_toArray, List.set_cons_zero, List.set_cons_succ]) | ((with_reducible refine quietL_want (by with_unfolding_all rfl) (fun K hK => ?_)); (apply Exists.intro; refine ⟨fun wx hx => ?_, ?_⟩; (· (have hcx := ifs_ex hx); simp [go_sem, *, ↓IntWalk.iteOmega] <;> (first | rfl | exact ⟨rfl, rfl⟩ | fail)); (simp only [Act.put, List.setIfInBounds_toArray, List.set_cons_zero, List.set_cons_succ]; refine hK _ ?_; clear hK K))))); refine quietL_nil ?_)
                  (refine anyB_one_want (i := 8) (by kernel_rfl) rfl (by kernel_rfl) ?_; intro wA hbA K hK; have hsA := hbA.size; (try simp at hsA); go_wp2_with fail)
                  refine (HTn.out _ _ _ _ _ _ _ (yd_kept HY4.out hbA)).mono ?_
                  rintro e wB ⟨F0', F1', F2', f0', f1', f2', rfl, hyd, hbB⟩
                  have hsB := hbB.size
                  have HY5 := Lib.hid hyd
                  clear hyd
                  (go_wp2; refine ⟨xs_, ?_⟩)
                  (refine anyB_one_want (i := 10) (by kernel_rfl) rfl (by kernel_rfl) ?_; intro wC hbC K hK; have hsC := hbC.size; (try simp at hsC); go_wp2_with fail)
                  refine (HTn.out _ _ _ _ _ _ _ (HI4.out.yd _ (Ex.of_below (hbA.trans ((hbB.trans (hbC.mono hbB.size)).mono hbA.size))))).mono ?_
                  rintro e wD ⟨K0, K1, K2, k0, k1, k2, rfl, hyd, hbD⟩
                  have hsD := hbD.size
                  have HY6 := Lib.hid hyd
                  clear hyd
                  (go_wp2; refine ⟨xs_, ?_⟩)
                  (refine anyB_one_want (i := 11) (by kernel_rfl) rfl (by kernel_rfl) ?_; intro wE hbE K hK; have hsE := hbE.size; (try simp at hsE); go_wp2_with fail)
                  refine (HSaz.out _ _ _ _ _ _ _ _ _ _ _ _ _ (yd_kept (yd_kept (yd_kept HY5.out hbC) hbD) hbE) (yd_kept HY6.out hbE)).mono ?_
                  rintro e wF ⟨rfl, hbF⟩
                  have hsF := hbF.size
                  (go_wp2; refine ⟨xs_, ?_⟩)
                  (refine anyB_quiet_at (by kernel_rfl) calm_panic xs_ 1 [12] _ _ (by kernel_rfl) (by decide +kernel) ?_; simp only [pickB, List.filterMap_cons, List.filterMap_nil, List.getElem?_toArray, List.getElem?_cons_zero, List.getElem?_cons_succ]; (repeat (first | ((with_reducible refine quietL_plain rfl (fun K hK => ?_)); (apply Exists.intro; refine ⟨fun wx hx => ?_, ?_⟩; (· (have hcx := ifs_ex hx); simp [go_sem, *, ↓IntWalk.iteOmega] <;> (first | rfl | exact ⟨rfl, rfl⟩ | fail)); (simp only [Act.put, List.setIfInBounds_toArray, List.set_cons_zero, List.set_cons_succ]; refine hK _ ?_; clear hK K))) | ((with_reducible refine quietL_skip (by with_unfolding_all rfl) ?_); simp only [Act.put, List.setIfInBounds_toArray, List.set_cons_zero, List.set_cons_succ]) | ((with_reducible refine quietL_want (by with_unfolding_all rfl) (fun K hK => ?_)); (apply Exists.intro; refine ⟨fun wx hx => ?_, ?_⟩; (· (have hcx := ifs_ex hx); simp [go_sem, *, ↓IntWalk.iteOmega] <;> (first | rfl | exact ⟨rfl, rfl⟩ | fail)); (simp only [Act.put, List.setIfInBounds_toArray, List.set_cons_zero, List.set_cons_succ]; refine hK _ ?_; clear hK K))))); refine quietL_nil ?_)
                  (refine anyB_one (i := 13) (by kernel_rfl) rfl rfl ?_; intro wG hbG K hK; have hsG := hbG.size; (try simp at hsG); go_wp2; refine ⟨xs_, ?_⟩)
                  (refine anyB_end (by kernel_rfl) ?_; intro wH hbH; have hsH := hbH.size; (try simp at hsH); simp only [Calm])
                  have hFin : Below wg.heap.size wg wH := hbA.trans ((hbB.trans ((hbC.trans ((hbD.trans ((hbE.trans ((hbF.trans ((hbG.trans (hbH.mono hbG.size)).mono hbF.size)).mono hbE.size)).mono hbD.size)).mono hbC.size)).mono hbB.size)).mono hbA.size)
                  have hLow := HI4.out.low.trans (hFin.mono HI4.out.low.size)
                  clear hbA hbB hbC hbD hbE hbF hbG hbH hFin
                  go_wp2_with fail
                  go_ret
                  exact ⟨by first | rfl | (simp; done), hLow⟩
end Go.Proofs.YtphlojgmfkgeiaaGreatDoor
