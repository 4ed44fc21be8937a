/- Joined texts: WA OP WF WG WH. -/
import Derived.Test.YtphlojgmfkgeiaaGreatDoorKa
import Derived.Test.YtphlojgmfkgeiaaGreatDoorKe
import Derived.Deep.Strs
import Derived.Deep.Fields
import Derived.Lib.SmallJoins
import Derived.Test.YtphlojgmfkgeiaaGreatDoorKk
/- Reference: which yards are short, small; which goals and acts are short. -/
namespace Go.Proofs.YtphlojgmfkgeiaaGreatDoor
open Go.RowKit Go.Sort
set_option linter.unusedSimpArgs false
set_option linter.unusedVariables false
attribute [local go_sem] cell_if frozen_if grow_cell
def shortY (y : Yd) : Bool := (y.s.all fun x => decide (x.n.size ≤ 40)) && (y.w.all fun x => decide (x.n.size ≤ 40) && decide (x.k.size ≤ 40)) && (y.p.all fun x => decide (x.n.size ≤ 40)) && (decide (y.s.length ≤ 9) && decide (y.w.length ≤ 9) && decide (y.p.length ≤ 9))
def smallY (y : Yd) : Bool := decide (y.s.length ≤ 6) && decide (y.w.length ≤ 6)
theorem all_no {α : Type} {p : α → Bool} {l : List α} {k : Nat} (h : k < l.length) (hp : p l[k] = false) : l.all p = false := by
  rw [List.all_eq_false]
  exact ⟨l[k], List.getElem_mem h, by rw [hp]; decide⟩
theorem all_upto {α : Type} {p : α → Bool} {l : List α} (h : ∀ k, (hk : k < l.length) → p l[k] = true) : l.all p = true := by
  rw [List.all_eq_true]
  intro x hx
  obtain ⟨k, hk, rfl⟩ := List.getElem_of_mem hx
  exact h k hk
theorem all_take {α : Type} (p : α → Bool) (l : List α) (k : Nat) (h : k < l.length) : (l.take (k + 1)).all p = ((l.take k).all p && p l[k]) := by
  rw [List.take_succ_eq_append_getElem h, List.all_append]; simp
def pS (x : Sec) : Bool := decide (x.n.size ≤ 40)
def pW (x : Sw) : Bool := decide (x.n.size ≤ 40) && decide (x.k.size ≤ 40)
def pP (x : Pm) : Bool := decide (x.n.size ≤ 40)
def szY (a b c : Nat) : Bool := decide (a ≤ 9) && decide (b ≤ 9) && decide (c ≤ 9)
theorem shortY_eq (y : Yd) : shortY y = (y.s.all pS && y.w.all pW && y.p.all pP && szY y.s.length y.w.length y.p.length) := rfl
set_option maxRecDepth 100000 in
set_option maxHeartbeats 2000000 in
theorem Short_any (B : Nat) (A0 A1 A2 : Option Addr) (n0 n1 n2 c0 c1 c2 : Nat) (y : Yd) (w : World) (hY : YdAt w B A0 A1 A2 n0 n1 n2 y) (hB : B ≤ w.heap.size) (h0 : n0 ≤ maxLen) (h1 : n1 ≤ maxLen) (h2 : n2 ≤ maxLen) :
    Calls Tryz.prog 15 #[.agg #[.slice A0 n0 c0, .slice A1 n1 c1, .slice A2 n2 c2]] w fun e w' => e = .returned (.bool (shortY y)) ∧ Below w.heap.size w w' := by
  obtain ⟨hl0, ha0⟩ := sec_at hY.hs
  obtain ⟨hl1, ha1⟩ := sw_at hY.hw
  obtain ⟨hl2, ha2⟩ := pm_at hY.hp
  unfold maxLen at h0 h1 h2
  have HA0 := Lib.hid ha0
  have HA1 := Lib.hid ha1
  have HA2 := Lib.hid ha2
  have HL0 := Lib.hid hl0
  have HL1 := Lib.hid hl1
  have HL2 := Lib.hid hl2
  rw [shortY_eq]
  have kc : ∀ b i, b < B → (w.alloc (.cells #[.slice A0 n0 c0, .slice A1 n1 c1, .slice A2 n2 c2] 26)).cell? ⟨b, i, none⟩ = w.cell? ⟨b, i, none⟩ := fun b i h => World.cell?_alloc_lt w _ _ (by simp; omega)
  have KC := Lib.hid kc
  clear ha0 ha1 ha2 hl0 hl1 hl2 hY kc
  go_enter Tryz.func15, Tryz.ntmps15
  go_wp2_with fail
  go_loop [3] (fun i => ∃ k : Nat, k ≤ n0 ∧ i = .int .i64 k ∧ Hid ((y.s.take k).all pS = true)) (fun i => n0 - (intOf i).toNat)
  case atStart => exact ⟨0, by omega, rfl, Lib.hid rfl⟩
  case round =>
    obtain ⟨k, hk, rfl, hq⟩ := hrel
    by_cases hlt : k < n0
    · have hkl : k < y.s.length := by rw [HL0.out]; exact hlt
      obtain ⟨b, o, rfl, hbb, z0, z1⟩ := HA0.out k hkl
      have HT := Lib.hid (all_take pS y.s k hkl)
      have HN := Lib.hid (all_no (p := pS) hkl)
      generalize y.s[k] = x at *
      obtain ⟨xn, xs⟩ := x
      dsimp only at z0 z1
      by_cases hzz : xn.size ≤ 40
      · have hz1 : ¬ (40 : Int) < (xn.size : Int) := by omega
        have HZ := Lib.hid hzz
        clear hzz
        go_wp2_with fail
        go_round
        case rel => exact ⟨k + 1, by omega, by go_num, Lib.hid (by rw [HT.out, hq.out]; simp [pS, HZ.out])⟩
        case measure => simp [intOf]; omega
      · have hz1 : (40 : Int) < (xn.size : Int) := by omega
        have HR : Hid ((y.s.all pS && y.w.all pW && y.p.all pP && szY y.s.length y.w.length y.p.length) = false) := by
          show _ = _
          rw [HN.out (by simp [pS]; omega)]; rfl
        clear hzz
        go_wp2_with fail
        go_ret
        exact ⟨by rw [HR.out]; rfl, bl_⟩
    · obtain rfl : k = n0 := by omega
      have HQ0 : Hid (y.s.all pS = true) := by
        have := hq.out
        rw [List.take_of_length_le (by rw [HL0.out]; exact Nat.le_refl _)] at this
        exact Lib.hid this
      clear hq hlt hk
      go_wp2_with fail
      go_loop [4] (fun i => ∃ j : Nat, j ≤ n1 ∧ i = .int .i64 j ∧ Hid ((y.w.take j).all pW = true)) (fun i => n1 - (intOf i).toNat)
      case atStart => exact ⟨0, by omega, rfl, Lib.hid rfl⟩
      case round =>
        obtain ⟨j, hk, rfl, hq⟩ := hrel
        by_cases hlt : j < n1
        · have hkl : j < y.w.length := by rw [HL1.out]; exact hlt
          obtain ⟨b, o, rfl, hbb, z0, z1, z2, z3, z4⟩ := HA1.out j hkl
          have HT := Lib.hid (all_take pW y.w j hkl)
          have HN := Lib.hid (all_no (p := pW) hkl)
          generalize y.w[j] = x at *
          obtain ⟨xn, xk, xa, xb, xc⟩ := x
          dsimp only at z0 z1 z2 z3 z4
          clear z2 z3 z4
          by_cases hzz : xn.size ≤ 40
          · have hz1 : ¬ (40 : Int) < (xn.size : Int) := by omega
            by_cases hyy : xk.size ≤ 40
            · have hy1 : ¬ (40 : Int) < (xk.size : Int) := by omega
              have HZ := Lib.hid hzz
              have HYy := Lib.hid hyy
              clear hzz hyy
              go_wp2_with fail
              go_round
              case rel => exact ⟨j + 1, by omega, by go_num, Lib.hid (by rw [HT.out, hq.out]; simp [pW, HZ.out, HYy.out])⟩
              case measure => simp [intOf]; omega
            · have hy1 : (40 : Int) < (xk.size : Int) := by omega
              have HR : Hid ((y.s.all pS && y.w.all pW && y.p.all pP && szY y.s.length y.w.length y.p.length) = false) := by
                show _ = _
                rw [HN.out (by simp [pW]; omega)]; simp
              clear hzz hyy
              go_wp2_with fail
              go_ret
              exact ⟨by rw [HR.out]; rfl, bl_⟩
          · have hz1 : (40 : Int) < (xn.size : Int) := by omega
            have HR : Hid ((y.s.all pS && y.w.all pW && y.p.all pP && szY y.s.length y.w.length y.p.length) = false) := by
              show _ = _
              rw [HN.out (by simp [pW]; omega)]; simp
            clear hzz
            go_wp2_with fail
            go_ret
            exact ⟨by rw [HR.out]; rfl, bl_⟩
        · obtain rfl : j = n1 := by omega
          have HQ1 : Hid (y.w.all pW = true) := by
            have := hq.out
            rw [List.take_of_length_le (by rw [HL1.out]; exact Nat.le_refl _)] at this
            exact Lib.hid this
          clear hq hlt hk
          go_wp2_with fail
          go_loop [5] (fun i => ∃ q : Nat, q ≤ n2 ∧ i = .int .i64 q ∧ Hid ((y.p.take q).all pP = true)) (fun i => n2 - (intOf i).toNat)
          case atStart => exact ⟨0, by omega, rfl, Lib.hid rfl⟩
          case round =>
            obtain ⟨q, hk, rfl, hq⟩ := hrel
            by_cases hlt : q < n2
            · have hkl : q < y.p.length := by rw [HL2.out]; exact hlt
              obtain ⟨b, o, rfl, hbb, z0, z1⟩ := HA2.out q hkl
              have HT := Lib.hid (all_take pP y.p q hkl)
              have HN := Lib.hid (all_no (p := pP) hkl)
              generalize y.p[q] = x at *
              obtain ⟨xn, xs⟩ := x
              dsimp only at z0 z1
              by_cases hzz : xn.size ≤ 40
              · have hz1 : ¬ (40 : Int) < (xn.size : Int) := by omega
                have HZ := Lib.hid hzz
                clear hzz
                go_wp2_with fail
                go_round
                case rel => exact ⟨q + 1, by omega, by go_num, Lib.hid (by rw [HT.out, hq.out]; simp [pP, HZ.out])⟩
                case measure => simp [intOf]; omega
              · have hz1 : (40 : Int) < (xn.size : Int) := by omega
                have HR : Hid ((y.s.all pS && y.w.all pW && y.p.all pP && szY y.s.length y.w.length y.p.length) = false) := by
                  show _ = _
                  rw [HN.out (by simp [pP]; omega)]; simp
                clear hzz
                go_wp2_with fail
                go_ret
                exact ⟨by rw [HR.out]; rfl, bl_⟩
            · obtain rfl : q = n2 := by omega
              have HQ2 : Hid (y.p.all pP = true) := by
                have := hq.out
                rw [List.take_of_length_le (by rw [HL2.out]; exact Nat.le_refl _)] at this
                exact Lib.hid this
              have HR : Hid ((y.s.all pS && y.w.all pW && y.p.all pP && szY y.s.length y.w.length y.p.length) = szY k j q) := by
                show _ = _
                rw [HQ0.out, HQ1.out, HQ2.out, HL0.out, HL1.out, HL2.out]; rfl
              clear hq hlt hk
              by_cases g0 : k ≤ 9
              · by_cases g1 : j ≤ 9
                · by_cases g2 : q ≤ 9
                  · have HS : Hid (szY k j q = true) := by show _ = _; simp [szY, g0, g1, g2]
                    have g0' : (k : Int) ≤ 9 := by omega
                    have g1' : (j : Int) ≤ 9 := by omega
                    have g2' : (q : Int) ≤ 9 := by omega
                    clear g0 g1 g2
                    go_wp2_with fail
                    go_ret
                    exact ⟨by rw [HR.out, HS.out]; rfl, bl_⟩
                  · have HS : Hid (szY k j q = false) := by show _ = _; simp [szY, g0, g1, g2]
                    have g0' : (k : Int) ≤ 9 := by omega
                    have g1' : (j : Int) ≤ 9 := by omega
                    have g2' : ¬ (q : Int) ≤ 9 := by omega
                    clear g0 g1 g2
                    go_wp2_with fail
                    go_ret
                    exact ⟨by rw [HR.out, HS.out]; rfl, bl_⟩
                · have HS : Hid (szY k j q = false) := by show _ = _; simp [szY, g0, g1]
                  have g0' : (k : Int) ≤ 9 := by omega
                  have g1' : ¬ (j : Int) ≤ 9 := by omega
                  clear g0 g1
                  go_wp2_with fail
                  go_ret
                  exact ⟨by rw [HR.out, HS.out]; rfl, bl_⟩
              · have HS : Hid (szY k j q = false) := by show _ = _; simp [szY, g0]
                have g0' : ¬ (k : Int) ≤ 9 := by omega
                clear g0
                go_wp2_with fail
                go_ret
                exact ⟨by rw [HR.out, HS.out]; rfl, bl_⟩
theorem Small_any (A0 A1 A2 : Option Addr) (n0 n1 n2 c0 c1 c2 : Nat) (y : Yd) (w : World) (h0 : y.s.length = n0) (h1 : y.w.length = n1) :
    Calls Tryz.prog 16 #[.agg #[.slice A0 n0 c0, .slice A1 n1 c1, .slice A2 n2 c2]] w fun e w' => e = .returned (.bool (smallY y)) ∧ Below w.heap.size w w' := by
  unfold smallY
  rw [h0, h1]
  clear h0 h1
  by_cases g0 : n0 ≤ 6
  · by_cases g1 : n1 ≤ 6
    · have e : (decide (n0 ≤ 6) && decide (n1 ≤ 6)) = true := by simp [g0, g1]
      have g0' : (n0 : Int) ≤ 6 := by omega
      have g1' : (n1 : Int) ≤ 6 := by omega
      clear g0 g1
      (rw [e]; clear e; go_enter Tryz.func16, Tryz.ntmps16; go_wp2; go_ret; exact ⟨by first | rfl | (simp; done) | (simp; omega), bl_⟩)
    · have e : (decide (n0 ≤ 6) && decide (n1 ≤ 6)) = false := by simp [g0, g1]
      have g0' : (n0 : Int) ≤ 6 := by omega
      have g1' : ¬ (n1 : Int) ≤ 6 := by omega
      clear g0 g1
      (rw [e]; clear e; go_enter Tryz.func16, Tryz.ntmps16; go_wp2; go_ret; exact ⟨by first | rfl | (simp; done) | (simp; omega), bl_⟩)
  · have e : (decide (n0 ≤ 6) && decide (n1 ≤ 6)) = false := by simp [g0]
    have g0' : ¬ (n0 : Int) ≤ 6 := by omega
    clear g0
    (rw [e]; clear e; go_enter Tryz.func16, Tryz.ntmps16; go_wp2; go_ret; exact ⟨by first | rfl | (simp; done) | (simp; omega), bl_⟩)
def shortG (k s : ByteArray) : Bool := decide (k.size ≤ 40) && decide (s.size ≤ 40)
theorem ShortGoal_any (k s : ByteArray) (w : World) :
    Calls Tryz.prog 18 #[.agg #[.string k, .string s]] w fun e w' => e = .returned (.bool (shortG k s)) ∧ Below w.heap.size w w' := by
  unfold shortG
  by_cases g0 : k.size ≤ 40
  · by_cases g1 : s.size ≤ 40
    · have e : (decide (k.size ≤ 40) && decide (s.size ≤ 40)) = true := by simp [g0, g1]
      have g0' : (k.size : Int) ≤ 40 := by omega
      have g1' : (s.size : Int) ≤ 40 := by omega
      clear g0 g1
      (rw [e]; clear e; go_enter Tryz.func18, Tryz.ntmps18; go_wp2; go_ret; exact ⟨by first | rfl | (simp; done) | (simp; omega), bl_⟩)
    · have e : (decide (k.size ≤ 40) && decide (s.size ≤ 40)) = false := by simp [g0, g1]
      have g0' : (k.size : Int) ≤ 40 := by omega
      have g1' : ¬ (s.size : Int) ≤ 40 := by omega
      clear g0 g1
      (rw [e]; clear e; go_enter Tryz.func18, Tryz.ntmps18; go_wp2; go_ret; exact ⟨by first | rfl | (simp; done) | (simp; omega), bl_⟩)
  · have e : (decide (k.size ≤ 40) && decide (s.size ≤ 40)) = false := by simp [g0]
    have g0' : ¬ (k.size : Int) ≤ 40 := by omega
    clear g0
    (rw [e]; clear e; go_enter Tryz.func18, Tryz.ntmps18; go_wp2; go_ret; exact ⟨by first | rfl | (simp; done) | (simp; omega), bl_⟩)
end Go.Proofs.YtphlojgmfkgeiaaGreatDoor
/- Opening a law's arguments: yards, goals, acts, lists. -/
namespace Go.Proofs.YtphlojgmfkgeiaaGreatDoor
open Go.ChangeShapes Go.WideShapes Go.ChangeAt Go.RowKit Go.Joins Go.Deep
instance : Inhabited Sec := ⟨⟨⟨#[]⟩, false⟩⟩
instance : Inhabited Sw := ⟨⟨⟨#[]⟩, ⟨#[]⟩, 0, 0, false⟩⟩
instance : Inhabited Pm := ⟨⟨⟨#[]⟩, 0⟩⟩
structure Ac where
  k : ByteArray
  n : ByteArray
  s : ByteArray
instance : Inhabited Ac := ⟨⟨⟨#[]⟩, ⟨#[]⟩, ⟨#[]⟩⟩⟩
def Ac.cells (x : Ac) : List Value := [.string x.k, .string x.n, .string x.s]
def acs (l : List Ac) : List Value := l.flatMap Ac.cells
section
variable {H : Type} {enc : TypeId × Value → H} {W : World} {base : Nat} {sp : Nat → Bool} {held : Bool}
theorem spot_none {a : Addr} {v : Value} (h : W.cell? a = some v) : ∃ b o, a = ⟨b, o, none⟩ ∧ b < W.heap.size := by
  obtain ⟨b, o, s⟩ := a
  unfold World.cell? at h
  cases hh : W.heap[b]? with
  | none => simp [hh] at h
  | some ob =>
    have hb := (Array.getElem?_eq_some_iff.1 hh).1
    cases ob <;> simp [hh] at h
    obtain ⟨rfl, _⟩ := h
    exact ⟨b, o, rfl, hb⟩
theorem open_rows {α : Type} [Inhabited α] {Q : α → Prop} {f : α → List Value} {m : Nat} (hm : 0 < m) (hf : ∀ x, (f x).length = m) {t e : TypeId} {fuel : Nat} {cs : List Value} {x : DataW H × List MemPlace} (ht : Tryz.prog.underlying t = some (.slice e)) (hc : Tryz.prog.cellsOf e = m)
    (he : ∀ n cs y, DataW.trod enc Tryz.prog W base sp held n e cs = some y → ∃ z, Q z ∧ cs = f z) (h : DataW.trod enc Tryz.prog W base sp held fuel t cs = some x) :
    ∃ A n c, ∃ l : List α, cs = [.slice A n c] ∧ n ≤ maxLen ∧ l.length = n ∧ (∀ z ∈ l, Q z) ∧ Reads W W.heap.size m A n (l.flatMap f) := by
  rcases open_slice ht h with ⟨rfl, _⟩ | ⟨a, len, cap, k, n, D, Pl, rfl, hb, hl, hcap, hk, _, hx⟩
  · exact ⟨none, 0, 0, [], rfl, Nat.zero_le _, rfl, by simp, by simp, fun h => absurd h (by omega)⟩
  · rw [hc] at hx
    have hlk : len ≤ k := by rw [hk]; split <;> omega
    obtain ⟨Z, hZ⟩ := choose_lt (n := len) (p := fun i z => Q z ∧ W.cells? base (a.add (i * m)) m = some (f z)) (fun i hi => by
      obtain ⟨cs', h1, h2⟩ := hx i (by omega)
      obtain ⟨z, hq, rfl⟩ := he _ _ _ h2
      exact ⟨z, hq, h1⟩)
    refine ⟨some a, len, cap, (List.range len).map Z, rfl, by omega, by simp, ?_, ?_, ?_⟩
    · intro z hz
      obtain ⟨i, hi, rfl⟩ := List.mem_map.1 hz
      exact (hZ i (List.mem_range.1 hi)).1
    · rw [flat_len hf]; simp
    · intro h0
      have hcell : ∀ i r, i < len → r < m → W.cell? ((a.add (i * m)).add r) = (f (Z i))[r]? := fun i r hi hr => (World.cells?_some (hZ i hi).2).2.2 r hr
      obtain ⟨b, o, rfl, hblt⟩ : ∃ b o, a = ⟨b, o, none⟩ ∧ b < W.heap.size := by
        have h1 := hcell 0 0 h0 hm
        rw [Nat.zero_mul] at h1
        have e0 : (a.add 0).add 0 = a := by simp [Addr.add]
        rw [e0, List.getElem?_eq_getElem (by rw [hf]; exact hm)] at h1
        exact spot_none h1
      refine ⟨b, o, rfl, hblt, fun j u hu => ?_⟩
      have hj : j < len * m := by
        have h1 := (List.getElem?_eq_some_iff.1 hu).1
        rw [flat_len hf] at h1
        simpa using h1
      have hr : j % m < m := Nat.mod_lt _ hm
      have hq : j / m < len := Nat.div_lt_of_lt_mul (by rw [Nat.mul_comm]; exact hj)
      have ej : j / m * m + j % m = j := Nat.div_add_mod' j m
      have h1 := hcell (j / m) (j % m) hq hr
      rw [add_plain, add_plain, Nat.add_assoc, ej] at h1
      rw [← ej, flat_get hf _ _ _ hr, List.getElem?_map, List.getElem?_range hq] at hu
      exact h1.trans hu
/-- A struct of one-cell fields: each cell with its reading. -/
theorem cells_all {t : TypeId} {fs : Array Field} {n : Nat} {cs : List Value} {x : DataW H × List MemPlace} (ht : Tryz.prog.underlying t = some (.struct fs)) (hone : oneCellFields Tryz.prog fs = true) (hc : Tryz.prog.cellsOf t = fs.size)
    (h : DataW.trod enc Tryz.prog W base sp held n t cs = some x) : cs.length = fs.size ∧ ∃ k, ∀ (i : Nat) (f : Field), fs[i]? = some f → ∃ v y, cs[i]? = some v ∧ DataW.trod enc Tryz.prog W base sp held k f.type [v] = some y := by
  obtain ⟨xs, k, _, _, hl, hxl, hf⟩ := DataW.trod_struct ht h
  rw [hc] at hl
  refine ⟨hl, k, fun i f hi => ?_⟩
  have hlt : i < fs.size := (Array.getElem?_eq_some_iff.1 hi).1
  obtain ⟨o, c⟩ := hone_of hone i f hi
  have h1 := hf i f hi
  rw [o, c, List.drop_eq_getElem_cons (by omega), List.getElem?_eq_getElem (by omega)] at h1
  exact ⟨cs[i], xs[i], List.getElem?_eq_getElem (by omega), h1⟩
theorem str_open : ∀ n cs y, DataW.trod enc Tryz.prog W base sp held n 9 cs = some y → ∃ z : ByteArray, z.size ≤ maxLen ∧ cs = [Value.string z] := by
  intro n cs y h
  obtain ⟨s, rfl, _, hs⟩ := DataW.trod_string Tryz.underlying9 h
  exact ⟨s, hs, rfl⟩
theorem int_open : ∀ n cs y, DataW.trod enc Tryz.prog W base sp held n 3 cs = some y → ∃ z : Int, (Lit.int .i64 z).wf = true ∧ cs = [Value.int .i64 z] := by
  intro n cs y h
  obtain ⟨s, rfl, _, hs⟩ := DataW.trod_int Tryz.underlying3 h
  exact ⟨s, hs, rfl⟩
def SecQ (x : Sec) : Prop := x.n.size ≤ maxLen
def SwQ (x : Sw) : Prop := x.n.size ≤ maxLen ∧ x.k.size ≤ maxLen
def PmQ (x : Pm) : Prop := x.n.size ≤ maxLen
def AcQ (x : Ac) : Prop := x.k.size ≤ maxLen ∧ x.n.size ≤ maxLen ∧ x.s.size ≤ maxLen
set_option maxRecDepth 100000 in
theorem sec_open : ∀ n cs y, DataW.trod enc Tryz.prog W base sp held n 66 cs = some y → ∃ z : Sec, SecQ z ∧ cs = z.cells := by
  intro n cs y h
  obtain ⟨hl, k, hall⟩ := cells_all Tryz.underlying66 (by kernel_rfl) (by kernel_rfl) h
  have hl' : cs.length = 2 := hl
  match cs, hl' with
  | [v0, v1], _ =>
    obtain ⟨_, y0, e0, h0⟩ := hall 0 _ rfl
    obtain ⟨_, y1, e1, h1⟩ := hall 1 _ rfl
    cases e0
    cases e1
    obtain ⟨s, g0, _, z0⟩ := DataW.trod_string Tryz.underlying9 h0
    obtain ⟨b, g1, _⟩ := DataW.trod_bool Tryz.underlying4 h1
    cases g0
    cases g1
    exact ⟨⟨s, b⟩, z0, rfl⟩
set_option maxRecDepth 100000 in
theorem pm_open : ∀ n cs y, DataW.trod enc Tryz.prog W base sp held n 72 cs = some y → ∃ z : Pm, PmQ z ∧ cs = z.cells := by
  intro n cs y h
  obtain ⟨hl, k, hall⟩ := cells_all Tryz.underlying72 (by kernel_rfl) (by kernel_rfl) h
  have hl' : cs.length = 2 := hl
  match cs, hl' with
  | [v0, v1], _ =>
    obtain ⟨_, y0, e0, h0⟩ := hall 0 _ rfl
    obtain ⟨_, y1, e1, h1⟩ := hall 1 _ rfl
    cases e0
    cases e1
    obtain ⟨s, g0, _, z0⟩ := DataW.trod_string Tryz.underlying9 h0
    obtain ⟨b, g1, _, _⟩ := DataW.trod_int Tryz.underlying3 h1
    cases g0
    cases g1
    exact ⟨⟨s, b⟩, z0, rfl⟩
set_option maxRecDepth 100000 in
theorem sw_open : ∀ n cs y, DataW.trod enc Tryz.prog W base sp held n 68 cs = some y → ∃ z : Sw, SwQ z ∧ cs = z.cells := by
  intro n cs y h
  obtain ⟨hl, k, hall⟩ := cells_all Tryz.underlying68 (by kernel_rfl) (by kernel_rfl) h
  have hl' : cs.length = 5 := hl
  match cs, hl' with
  | [v0, v1, v2, v3, v4], _ =>
    obtain ⟨_, y0, e0, h0⟩ := hall 0 _ rfl
    obtain ⟨_, y1, e1, h1⟩ := hall 1 _ rfl
    obtain ⟨_, y2, e2, h2⟩ := hall 2 _ rfl
    obtain ⟨_, y3, e3, h3⟩ := hall 3 _ rfl
    obtain ⟨_, y4, e4, h4⟩ := hall 4 _ rfl
    cases e0
    cases e1
    cases e2
    cases e3
    cases e4
    obtain ⟨s, g0, _, z0⟩ := DataW.trod_string Tryz.underlying9 h0
    obtain ⟨k, g1, _, z1⟩ := DataW.trod_string Tryz.underlying9 h1
    obtain ⟨a, g2, _, _⟩ := DataW.trod_int Tryz.underlying3 h2
    obtain ⟨b, g3, _, _⟩ := DataW.trod_int Tryz.underlying3 h3
    obtain ⟨c, g4, _⟩ := DataW.trod_bool Tryz.underlying4 h4
    cases g0
    cases g1
    cases g2
    cases g3
    cases g4
    exact ⟨⟨s, k, a, b, c⟩, ⟨z0, z1⟩, rfl⟩
/-- The sizes of a yard's words. -/
structure Wide (y : Yd) : Prop where
  s : ∀ x ∈ y.s, SecQ x
  w : ∀ x ∈ y.w, SwQ x
  p : ∀ x ∈ y.p, PmQ x
theorem Wide.fits {y : Yd} (h : Wide y) (hS : shortY y = true) : Fits y := by
  unfold shortY at hS
  simp only [Bool.and_eq_true, decide_eq_true_eq] at hS
  exact ⟨hS.2.1.1, hS.2.1.2, hS.2.2, h.s, fun x hx => (h.w x hx).1, h.p⟩
set_option maxRecDepth 100000 in
theorem open_yard {r : Reach} {b0 : Nat} {v : Value} {d : DataW H} {ps : List MemPlace} (hv : Value.okWide Tryz.prog W r b0 26 v) (h : DataW.Trod enc Tryz.prog W base sp held 26 v d ps) :
    ∃ A0 A1 A2 n0 n1 n2 c0 c1 c2 y, v = .agg #[.slice A0 n0 c0, .slice A1 n1 c1, .slice A2 n2 c2] ∧ YdAt W W.heap.size A0 A1 A2 n0 n1 n2 y ∧ n0 ≤ maxLen ∧ n1 ≤ maxLen ∧ n2 ≤ maxLen ∧ Wide y := by
  obtain ⟨v0, v1, v2, y0, y1, y2, n, rfl, _, _, h0, h1, h2⟩ := open_agg3 Tryz.underlying26 (by kernel_rfl) (by kernel_rfl) hv h
  obtain ⟨A0, n0, c0, s, e0, m0, _, q0, r0⟩ := open_rows (f := Sec.cells) (m := 2) (by decide) (fun _ => rfl) Tryz.underlying22 (by kernel_rfl) sec_open h0
  obtain ⟨A1, n1, c1, w, e1, m1, _, q1, r1⟩ := open_rows (f := Sw.cells) (m := 5) (by decide) (fun _ => rfl) Tryz.underlying23 (by kernel_rfl) sw_open h1
  obtain ⟨A2, n2, c2, p, e2, m2, _, q2, r2⟩ := open_rows (f := Pm.cells) (m := 2) (by decide) (fun _ => rfl) Tryz.underlying24 (by kernel_rfl) pm_open h2
  cases e0
  cases e1
  cases e2
  exact ⟨A0, A1, A2, n0, n1, n2, c0, c1, c2, ⟨s, w, p⟩, rfl, ⟨r0, r1, r2⟩, m0, m1, m2, ⟨q0, q1, q2⟩⟩
end
end Go.Proofs.YtphlojgmfkgeiaaGreatDoor
/- Reference: the errors of a yard's parts; of a yard (under way). -/
namespace Go.Proofs.YtphlojgmfkgeiaaGreatDoor
open Go.RowKit Go.Sort Go.Shelf
set_option linter.unusedSimpArgs false
set_option linter.unusedVariables false
attribute [local go_sem] cell_if frozen_if grow_cell
/-- The checks of a list, on the way. -/
theorem chkGo_at (l : List (ByteArray × Int)) (k : Nat) (h : k < l.length) : chkGo ((l.take k).map Prod.fst) (l.drop k) = if chkOne ((l.take k).map Prod.fst) l[k].1 l[k].2 = 0 then chkGo ((l.take (k + 1)).map Prod.fst) (l.drop (k + 1)) else chkOne ((l.take k).map Prod.fst) l[k].1 l[k].2 := by
  rw [List.drop_eq_getElem_cons h, List.take_succ_eq_append_getElem h, List.map_append]
  generalize l[k] = q
  obtain ⟨s, e⟩ := q
  rfl
theorem chkGo_end (l : List (ByteArray × Int)) (k : Nat) (h : l.length ≤ k) (b : List ByteArray) : chkGo b (l.drop k) = 0 := by
  rw [List.drop_eq_nil_of_le h]; rfl
theorem first_pair (a b : Int) : firstE [firstE [a, b], 0] = firstE [a, b] := by
  by_cases h : a = 0
  · by_cases h2 : b = 0 <;> simp [firstE, h, h2]
  · simp [firstE, h]
theorem first_three (a b c : Int) : firstE [firstE [a, b], c] = firstE [a, b, c] := by
  by_cases h : a = 0
  · by_cases h2 : b = 0 <;> simp [firstE, h, h2]
  · simp [firstE, h]
def lS (y : Yd) : List (ByteArray × Int) := y.s.map fun x => (x.n, (0 : Int))
def lW (y : Yd) : List (ByteArray × Int) := y.w.map fun x => (x.n, swE y.s.length x)
def lP (y : Yd) : List (ByteArray × Int) := y.p.map fun x => (x.n, whenE (!hasN y.s.length x.s) 10)
theorem chkAll_big {l : List (ByteArray × Int)} (h : 8 < l.length) : chkAll l = 5 := by unfold chkAll; rw [if_pos h]
theorem chkAll_small {l : List (ByteArray × Int)} (h : l.length ≤ 8) : chkAll l = chkGo [] l := by unfold chkAll; rw [if_neg (by omega)]
theorem parts0 {y : Yd} (h : y.s.length = 0) : partsE y = 12 := by
  have : y.s = [] := List.eq_nil_of_length_eq_zero h
  unfold partsE; rw [this]; rfl
theorem parts_s {y : Yd} (h : 0 < y.s.length) : partsE y = or0 (chkAll (lS y)) (or0 (chkAll (lW y)) (chkAll (lP y))) := by
  have : y.s.isEmpty = false := by
    cases e : y.s with
    | nil => rw [e] at h; simp at h
    | cons a r => rfl
  unfold partsE; rw [this]; rfl
set_option maxRecDepth 100000 in
set_option maxHeartbeats 4000000 in
theorem rCheckPartsL_any (B : Nat) (A0 A1 A2 : Option Addr) (n0 n1 n2 c0 c1 c2 : Nat) (y : Yd) (w : World) (hY : YdAt w B A0 A1 A2 n0 n1 n2 y) (hB : B ≤ w.heap.size) (hF : FitsL y) :
    Calls Tryz.prog 72 #[.agg #[.slice A0 n0 c0, .slice A1 n1 c1, .slice A2 n2 c2]] w fun e w' => e = .returned (.int .i64 (partsE y)) ∧ Below w.heap.size w w' := by
  obtain ⟨hl0, ha0⟩ := sec_at hY.hs
  obtain ⟨hl1, ha1⟩ := sw_at hY.hw
  obtain ⟨hl2, ha2⟩ := pm_at hY.hp
  have hF0 := hF.s9
  have hF1 := hF.w9
  have hF2 := hF.p9
  have hn0 : n0 ≤ 400 := hl0 ▸ hF0
  have hn1 : n1 ≤ 400 := hl1 ▸ hF1
  have hn2 : n2 ≤ 400 := hl2 ▸ hF2
  have HA0 := Lib.hid ha0
  have HA2 := Lib.hid ha2
  have HL0 := Lib.hid hl0
  have HL1 := Lib.hid hl1
  have HL2 := Lib.hid hl2
  have HFs := Lib.hid (fun W (hW : Below w.heap.size w W) s (k : Nat) (hk : k ≤ n0) => FindSection_any B A0 A1 A2 n0 n1 n2 c0 c1 c2 y s k W (hY.below (hW.mono hB)) (by have := hW.size; omega) hk (by unfold maxLen; omega))
  have HFp := Lib.hid (fun W (hW : Below w.heap.size w W) s (k : Nat) (hk : k ≤ n2) => FindPermit_any B A0 A1 A2 n0 n1 n2 c0 c1 c2 y s k W (hY.below (hW.mono hB)) (by have := hW.size; omega) hk (by unfold maxLen; omega))
  have HCs := Lib.hid (fun W (hW : Below w.heap.size w W) (k : Nat) (hk : k < y.w.length) => rCheckSwitch_any B A0 A1 A2 n0 n1 n2 c0 c1 c2 y W (hY.below (hW.mono hB)) (by have := hW.size; omega) hn1 hF.wn k hk)
  have HsN := Lib.hid hF.sn
  have HpN := Lib.hid hF.pn
  clear ha0 ha1 ha2 hl0 hl1 hl2 hY hF hF0 hF1 hF2
  by_cases h00 : n0 = 0
  · have HR : Hid (partsE y = 12) := by show _ = _; exact parts0 (by rw [HL0.out]; exact h00)
    subst h00
    rw [HR.out]
    have HWa := Lib.hid (fun W => rWhen_any true 12 W)
    have HWb := Lib.hid (fun W => rWhen_any false 5 W)
    go_enter Tryz.func72, Tryz.ntmps72
    go_wp2_with fail
    (refine wp_region_calm [] [0, 1, 2, 3, 4, 5, 6, 7, 8, 9] 3 (by kernel_rfl) rfl (by kernel_rfl) (by kernel_rfl) (by kernel_rfl) ?_; simp only [pickB, List.filterMap_cons, List.filterMap_nil, List.getElem?_toArray, List.getElem?_cons_zero, List.getElem?_cons_succ]; (repeat (first | ((first | (with_reducible refine quietL_plain rfl (fun K hK => ?_)) | (with_reducible refine quietL_want (by with_unfolding_all rfl) (fun K hK => ?_))); (apply Exists.intro; refine ⟨fun wx hx => ?_, ?_⟩; (· (have hcx := ifs_ex hx); simp [go_sem, *, ↓IntWalk.iteOmega] <;> (first | rfl | exact ⟨rfl, rfl⟩ | (first | (with_reducible exact calls_B (calls_below (HWa.out _))) | exact calls_B (calls_below (HWb.out _))))); (simp only [Act.put, List.setIfInBounds_toArray, List.set_cons_zero, List.set_cons_succ]; refine hK _ ?_; clear hK K))) | ((with_reducible refine quietL_skip (by with_unfolding_all rfl) ?_); simp only [Act.put, List.setIfInBounds_toArray, List.set_cons_zero, List.set_cons_succ]))); refine quietL_nil ?_)
    (refine anyB_one (i := 10) (by kernel_rfl) rfl rfl ?_; intro w2 hb2 K hK; obtain ⟨hc2, hf2⟩ := ifs_of hb2; have hs2 := hb2.size; (try simp at hs2); go_wp2; refine ⟨xs_, ?_⟩)
    (refine anyB_one (i := 11) (by kernel_rfl) rfl rfl ?_; intro w3 hb3 K hK; obtain ⟨hc3, hf3⟩ := ifs_of hb3; have hs3 := hb3.size; (try simp at hs3); go_wp2_with fail; refine (rFirst_any (w2.heap.size + 1) _ 2 2 [12, 0] _ ((by simpa using Reads.new (size := 1) w2 (([12, 0]).map (.int .i64)).toArray 3 2 rfl : Reads (w2.alloc (.cells (([12, 0]).map (.int .i64)).toArray 3)) (w2.heap.size + 1) 1 (some ⟨w2.heap.size, 0, none⟩) 2 (([12, 0]).map (.int .i64))).below (hb3.mono (by simp))) (by unfold maxLen; decide)).mono ?_; rintro e w3' ⟨rfl, rfl⟩; go_wp2; refine ⟨xs_, ?_⟩)
    rw [show firstE [12, 0] = 12 from rfl]
    (refine anyB_one (i := 12) (by kernel_rfl) rfl rfl ?_; intro w4 hb4 K hK; obtain ⟨hc4, hf4⟩ := ifs_of hb4; have hs4 := hb4.size; (try simp at hs4); go_wp2; refine ⟨xs_, ?_⟩)
    (refine anyB_end (by kernel_rfl) ?_; intro w5 hb5; obtain ⟨hc5, hf5⟩ := ifs_of hb5; have hs5 := hb5.size; (try simp at hs5); simp only [Calm]; go_wp2_with fail)
    go_ret
    exact ⟨rfl, bl_⟩
  · by_cases h9 : 8 < n0
    · have HR : Hid (partsE y = 5) := by
        show _ = _
        rw [parts_s (by rw [HL0.out]; omega), chkAll_big (by simp [lS, HL0.out]; omega)]; rfl
      have HWa := Lib.hid (fun W => rWhen_any ((n0 : Int) == 0) 12 W)
      have HWb := Lib.hid (fun W => rWhen_any (decide ((8 : Int) < (n0 : Int))) 5 W)
      rw [show whenE ((n0 : Int) == 0) 12 = 0 by rw [show ((n0 : Int) == 0) = false by simp; omega]; rfl] at HWa
      rw [show whenE (decide ((8 : Int) < (n0 : Int))) 5 = 5 by rw [show decide ((8 : Int) < (n0 : Int)) = true by simp; omega]; rfl] at HWb
      rw [HR.out]
      clear h00 h9
      go_enter Tryz.func72, Tryz.ntmps72
      go_wp2_with fail
      (refine wp_region_calm [] [0, 1, 2, 3, 4, 5, 6, 7, 8, 9] 3 (by kernel_rfl) rfl (by kernel_rfl) (by kernel_rfl) (by kernel_rfl) ?_; simp only [pickB, List.filterMap_cons, List.filterMap_nil, List.getElem?_toArray, List.getElem?_cons_zero, List.getElem?_cons_succ]; (repeat (first | ((first | (with_reducible refine quietL_plain rfl (fun K hK => ?_)) | (with_reducible refine quietL_want (by with_unfolding_all rfl) (fun K hK => ?_))); (apply Exists.intro; refine ⟨fun wx hx => ?_, ?_⟩; (· (have hcx := ifs_ex hx); simp [go_sem, *, ↓IntWalk.iteOmega] <;> (first | rfl | exact ⟨rfl, rfl⟩ | (first | (with_reducible exact calls_B (calls_below (HWa.out _))) | (with_reducible exact calls_B (calls_below (HWb.out _)))))); (simp only [Act.put, List.setIfInBounds_toArray, List.set_cons_zero, List.set_cons_succ]; refine hK _ ?_; clear hK K))) | ((with_reducible refine quietL_skip (by with_unfolding_all rfl) ?_); simp only [Act.put, List.setIfInBounds_toArray, List.set_cons_zero, List.set_cons_succ]))); refine quietL_nil ?_)
      (refine anyB_one (i := 10) (by kernel_rfl) rfl rfl ?_; intro w2 hb2 K hK; obtain ⟨hc2, hf2⟩ := ifs_of hb2; have hs2 := hb2.size; (try simp at hs2); go_wp2; refine ⟨xs_, ?_⟩)
      (refine anyB_one (i := 11) (by kernel_rfl) rfl rfl ?_; intro w3 hb3 K hK; obtain ⟨hc3, hf3⟩ := ifs_of hb3; have hs3 := hb3.size; (try simp at hs3); go_wp2_with fail; refine (rFirst_any (w2.heap.size + 1) _ 2 2 [0, 5] _ ((by simpa using Reads.new (size := 1) w2 (([0, 5]).map (.int .i64)).toArray 3 2 rfl : Reads (w2.alloc (.cells (([0, 5]).map (.int .i64)).toArray 3)) (w2.heap.size + 1) 1 (some ⟨w2.heap.size, 0, none⟩) 2 (([0, 5]).map (.int .i64))).below (hb3.mono (by simp))) (by unfold maxLen; decide)).mono ?_; rintro e w3' ⟨rfl, rfl⟩; go_wp2; refine ⟨xs_, ?_⟩)
      rw [show firstE [0, 5] = 5 from rfl]
      (refine anyB_one (i := 12) (by kernel_rfl) rfl rfl ?_; intro w4 hb4 K hK; obtain ⟨hc4, hf4⟩ := ifs_of hb4; have hs4 := hb4.size; (try simp at hs4); go_wp2; refine ⟨xs_, ?_⟩)
      (refine anyB_end (by kernel_rfl) ?_; intro w5 hb5; obtain ⟨hc5, hf5⟩ := ifs_of hb5; have hs5 := hb5.size; (try simp at hs5); simp only [Calm]; go_wp2_with fail)
      go_ret
      exact ⟨rfl, bl_⟩
    · have HP : Hid (partsE y = or0 (chkGo [] (lS y)) (or0 (chkAll (lW y)) (chkAll (lP y)))) := by
        show _ = _
        rw [parts_s (by rw [HL0.out]; omega), chkAll_small (by simp [lS, HL0.out]; omega)]
      have HWa := Lib.hid (fun W => rWhen_any ((n0 : Int) == 0) 12 W)
      have HWb := Lib.hid (fun W => rWhen_any (decide ((8 : Int) < (n0 : Int))) 5 W)
      rw [show whenE ((n0 : Int) == 0) 12 = 0 by rw [show ((n0 : Int) == 0) = false by simp; omega]; rfl] at HWa
      rw [show whenE (decide ((8 : Int) < (n0 : Int))) 5 = 0 by rw [show decide ((8 : Int) < (n0 : Int)) = false by simp; omega]; rfl] at HWb
      have hn8 : n0 ≤ 8 := by omega
      clear h00 h9
      go_enter Tryz.func72, Tryz.ntmps72
      go_wp2_with fail
      (refine wp_region_calm [] [0, 1, 2, 3, 4, 5, 6, 7, 8, 9] 3 (by kernel_rfl) rfl (by kernel_rfl) (by kernel_rfl) (by kernel_rfl) ?_; simp only [pickB, List.filterMap_cons, List.filterMap_nil, List.getElem?_toArray, List.getElem?_cons_zero, List.getElem?_cons_succ]; (repeat (first | ((first | (with_reducible refine quietL_plain rfl (fun K hK => ?_)) | (with_reducible refine quietL_want (by with_unfolding_all rfl) (fun K hK => ?_))); (apply Exists.intro; refine ⟨fun wx hx => ?_, ?_⟩; (· (have hcx := ifs_ex hx); simp [go_sem, *, ↓IntWalk.iteOmega] <;> (first | rfl | exact ⟨rfl, rfl⟩ | (first | (with_reducible exact calls_B (calls_below (HWa.out _))) | (with_reducible exact calls_B (calls_below (HWb.out _)))))); (simp only [Act.put, List.setIfInBounds_toArray, List.set_cons_zero, List.set_cons_succ]; refine hK _ ?_; clear hK K))) | ((with_reducible refine quietL_skip (by with_unfolding_all rfl) ?_); simp only [Act.put, List.setIfInBounds_toArray, List.set_cons_zero, List.set_cons_succ]))); refine quietL_nil ?_)
      (refine anyB_one (i := 10) (by kernel_rfl) rfl rfl ?_; intro w2 hb2 K hK; obtain ⟨hc2, hf2⟩ := ifs_of hb2; have hs2 := hb2.size; (try simp at hs2); go_wp2; refine ⟨xs_, ?_⟩)
      (refine anyB_one (i := 11) (by kernel_rfl) rfl rfl ?_; intro w3 hb3 K hK; obtain ⟨hc3, hf3⟩ := ifs_of hb3; have hs3 := hb3.size; (try simp at hs3); go_wp2_with fail; refine (rFirst_any (w2.heap.size + 1) _ 2 2 [0, 0] _ ((by simpa using Reads.new (size := 1) w2 (([0, 0]).map (.int .i64)).toArray 3 2 rfl : Reads (w2.alloc (.cells (([0, 0]).map (.int .i64)).toArray 3)) (w2.heap.size + 1) 1 (some ⟨w2.heap.size, 0, none⟩) 2 (([0, 0]).map (.int .i64))).below (hb3.mono (by simp))) (by unfold maxLen; decide)).mono ?_; rintro e w3' ⟨rfl, rfl⟩; go_wp2; refine ⟨xs_, ?_⟩)
      rw [show firstE [0, 0] = 0 from rfl]
      (refine anyB_one (i := 12) (by kernel_rfl) rfl rfl ?_; intro w4 hb4 K hK; obtain ⟨hc4, hf4⟩ := ifs_of hb4; have hs4 := hb4.size; (try simp at hs4); go_wp2; refine ⟨xs_, ?_⟩)
      (refine anyB_end (by kernel_rfl) ?_; intro w5 hb5; obtain ⟨hc5, hf5⟩ := ifs_of hb5; have hs5 := hb5.size; (try simp at hs5); simp only [Calm]; go_wp2_with fail)
      go_loopw [4] (fun i wr => ∃ k : Nat, k ≤ n0 ∧ i = .int .i64 k ∧ Hid (chkGo (((lS y).take k).map Prod.fst) ((lS y).drop k) = chkGo [] (lS y)) ∧ Below w.heap.size w wr ∧ Blk wr w.heap.size 26 #[.slice A0 n0 c0, .slice A1 n1 c1, .slice A2 n2 c2]) (fun i _ => n0 - (intOf i).toNat)
      case atStart => exact ⟨0, by omega, rfl, Lib.hid rfl, bl_, bk_⟩
      case round =>
        obtain ⟨k, hk, rfl, hg, hb, bY⟩ := hrel
        have hsr := hb.size
        have cY := bY.cell
        have lY := bY.lt
        have BY := Lib.hid bY
        clear bY
        by_cases hlt : k < n0
        · have hkl : k < y.s.length := by rw [HL0.out]; exact hlt
          obtain ⟨b, o, eA, hbb, z0, z1⟩ := HA0.out k hkl
          have kb : ∀ i, wr.cell? ⟨b, i, none⟩ = w.cell? ⟨b, i, none⟩ := fun i => hb.cell (p := ⟨b, i, none⟩) (by simp; omega)
          rw [← kb] at z0
          clear kb z1
          subst eA
          have hbw : b < wr.heap.size := by omega
          have HG : Hid (chkGo (((lS y).take k).map Prod.fst) ((lS y).drop k) = if firstE [nameE y.s[k].n, whenE (hasW ((y.s.map Sec.n).take k) y.s[k].n) 9] = 0 then chkGo (((lS y).take (k + 1)).map Prod.fst) ((lS y).drop (k + 1)) else firstE [nameE y.s[k].n, whenE (hasW ((y.s.map Sec.n).take k) y.s[k].n) 9]) := by
            show _ = _
            rw [chkGo_at (lS y) k (by simp [lS]; exact hkl)]
            have e1 : ((lS y).take k).map Prod.fst = (y.s.map Sec.n).take k := by
              rw [List.map_take]; congr 1; simp [lS]
            have e2 : (lS y)[k]'(by simp [lS]; exact hkl) = (y.s[k].n, 0) := by simp [lS]
            rw [e1, e2]
            unfold chkOne
            rw [first_pair]
          have hns := HsN.out _ (List.getElem_mem hkl)
          have HFk := Lib.hid (fun W hW => HFs.out W hW y.s[k].n k hk)
          have HFh := Lib.hid (find_has ((y.s.map Sec.n).take k) y.s[k].n)
          rw [← HFh.out] at HG
          clear HFh
          generalize findI ((y.s.map Sec.n).take k) y.s[k].n = fi at *
          generalize y.s[k].n = xn at *
          have HCN := Lib.hid (fun W => CheckName_any xn W hns)
          have HW2 := Lib.hid (fun W => rWhen_any (decide (0 ≤ fi)) 9 W)
          clear hns
          generalize nameE xn = a1 at *
          generalize whenE (decide (0 ≤ fi)) 9 = a2 at *
          generalize hee : firstE [a1, a2] = ee at *
          have HEQ := Lib.hid hee
          clear hee
          cases hz : (ee != 0) with
          | true =>
            have HR : Hid (partsE y = ee) := by
              show _ = _
              have hne : ee ≠ 0 := by simpa using hz
              rw [HP.out, ← hg.out, HG.out, if_neg hne, or0, if_neg hne]
            go_wp2_with fail
            (refine wp_region_calm [] [0, 1, 2, 3, 4, 5, 6, 7, 8, 9, 10, 11, 12, 13, 14, 15, 16, 17] 3 (by kernel_rfl) rfl (by kernel_rfl) (by kernel_rfl) (by kernel_rfl) ?_; simp only [pickB, List.filterMap_cons, List.filterMap_nil, List.getElem?_toArray, List.getElem?_cons_zero, List.getElem?_cons_succ]; (repeat (first | ((first | (with_reducible refine quietL_plain rfl (fun K hK => ?_)) | (with_reducible refine quietL_want (by with_unfolding_all rfl) (fun K hK => ?_))); (apply Exists.intro; refine ⟨fun wx hx => ?_, ?_⟩; (· (have hcx := ifs_ex hx); simp [go_sem, *, ↓IntWalk.iteOmega] <;> (first | rfl | exact ⟨rfl, rfl⟩ | (have hbx := Ex.belowW hx; have hby : Below w.heap.size w wx := bl_; first | (with_reducible exact calls_B (calls_below (HW2.out _))) | (with_reducible exact calls_B (calls_below (HCN.out _))) | (with_reducible exact calls_B (HFk.out _ (by assumption)))))); (simp only [Act.put, List.setIfInBounds_toArray, List.set_cons_zero, List.set_cons_succ]; refine hK _ ?_; clear hK K))) | ((with_reducible refine quietL_skip (by with_unfolding_all rfl) ?_); simp only [Act.put, List.setIfInBounds_toArray, List.set_cons_zero, List.set_cons_succ]))); refine quietL_nil ?_)
            (refine anyB_one (i := 18) (by kernel_rfl) rfl rfl ?_; intro w7 hb7 K hK; obtain ⟨hc7, hf7⟩ := ifs_of hb7; have hs7 := hb7.size; (try simp at hs7); go_wp2; refine ⟨xs_, ?_⟩)
            (refine anyB_one (i := 19) (by kernel_rfl) rfl rfl ?_; intro w8 hb8 K hK; obtain ⟨hc8, hf8⟩ := ifs_of hb8; have hs8 := hb8.size; (try simp at hs8); go_wp2_with fail; refine (rFirst_any (w7.heap.size + 1) _ 2 2 [a1, a2] _ ((by simpa using Reads.new (size := 1) w7 (([a1, a2]).map (.int .i64)).toArray 3 2 rfl : Reads (w7.alloc (.cells (([a1, a2]).map (.int .i64)).toArray 3)) (w7.heap.size + 1) 1 (some ⟨w7.heap.size, 0, none⟩) 2 (([a1, a2]).map (.int .i64))).below (hb8.mono (by simp))) (by unfold maxLen; decide)).mono ?_; rintro e w8' ⟨rfl, rfl⟩; go_wp2; refine ⟨xs_, ?_⟩)
            rw [HEQ.out]
            (refine anyB_one (i := 20) (by kernel_rfl) rfl rfl ?_; intro w9 hb9 K hK; obtain ⟨hc9, hf9⟩ := ifs_of hb9; have hs9 := hb9.size; (try simp at hs9); go_wp2; refine ⟨xs_, ?_⟩)
            (refine anyB_end (by kernel_rfl) ?_; intro wa hba; obtain ⟨hca, hfa⟩ := ifs_of hba; have hsa := hba.size; (try simp at hsa); simp only [Calm]; go_wp2_with fail)
            go_ret
            exact ⟨by rw [HR.out]; rfl, bl_⟩
          | false =>
            obtain rfl : ee = 0 := by simpa using hz
            have HR : Hid (chkGo (((lS y).take (k + 1)).map Prod.fst) ((lS y).drop (k + 1)) = chkGo [] (lS y)) := by
              show _ = _
              rw [← hg.out, HG.out, if_pos rfl]
            go_wp2_with fail
            (refine wp_region_calm [] [0, 1, 2, 3, 4, 5, 6, 7, 8, 9, 10, 11, 12, 13, 14, 15, 16, 17] 3 (by kernel_rfl) rfl (by kernel_rfl) (by kernel_rfl) (by kernel_rfl) ?_; simp only [pickB, List.filterMap_cons, List.filterMap_nil, List.getElem?_toArray, List.getElem?_cons_zero, List.getElem?_cons_succ]; (repeat (first | ((first | (with_reducible refine quietL_plain rfl (fun K hK => ?_)) | (with_reducible refine quietL_want (by with_unfolding_all rfl) (fun K hK => ?_))); (apply Exists.intro; refine ⟨fun wx hx => ?_, ?_⟩; (· (have hcx := ifs_ex hx); simp [go_sem, *, ↓IntWalk.iteOmega] <;> (first | rfl | exact ⟨rfl, rfl⟩ | (have hbx := Ex.belowW hx; have hby : Below w.heap.size w wx := bl_; first | (with_reducible exact calls_B (calls_below (HW2.out _))) | (with_reducible exact calls_B (calls_below (HCN.out _))) | (with_reducible exact calls_B (HFk.out _ (by assumption)))))); (simp only [Act.put, List.setIfInBounds_toArray, List.set_cons_zero, List.set_cons_succ]; refine hK _ ?_; clear hK K))) | ((with_reducible refine quietL_skip (by with_unfolding_all rfl) ?_); simp only [Act.put, List.setIfInBounds_toArray, List.set_cons_zero, List.set_cons_succ]))); refine quietL_nil ?_)
            (refine anyB_one (i := 18) (by kernel_rfl) rfl rfl ?_; intro w7 hb7 K hK; obtain ⟨hc7, hf7⟩ := ifs_of hb7; have hs7 := hb7.size; (try simp at hs7); go_wp2; refine ⟨xs_, ?_⟩)
            (refine anyB_one (i := 19) (by kernel_rfl) rfl rfl ?_; intro w8 hb8 K hK; obtain ⟨hc8, hf8⟩ := ifs_of hb8; have hs8 := hb8.size; (try simp at hs8); go_wp2_with fail; refine (rFirst_any (w7.heap.size + 1) _ 2 2 [a1, a2] _ ((by simpa using Reads.new (size := 1) w7 (([a1, a2]).map (.int .i64)).toArray 3 2 rfl : Reads (w7.alloc (.cells (([a1, a2]).map (.int .i64)).toArray 3)) (w7.heap.size + 1) 1 (some ⟨w7.heap.size, 0, none⟩) 2 (([a1, a2]).map (.int .i64))).below (hb8.mono (by simp))) (by unfold maxLen; decide)).mono ?_; rintro e w8' ⟨rfl, rfl⟩; go_wp2; refine ⟨xs_, ?_⟩)
            rw [HEQ.out]
            (refine anyB_one (i := 20) (by kernel_rfl) rfl rfl ?_; intro w9 hb9 K hK; obtain ⟨hc9, hf9⟩ := ifs_of hb9; have hs9 := hb9.size; (try simp at hs9); go_wp2; refine ⟨xs_, ?_⟩)
            (refine anyB_end (by kernel_rfl) ?_; intro wa hba; obtain ⟨hca, hfa⟩ := ifs_of hba; have hsa := hba.size; (try simp at hsa); simp only [Calm]; go_wp2_with fail)
            go_roundw
            case rel => exact ⟨k + 1, by omega, by go_num, HR, bl_, BY.out.kept bl_⟩
            case measure => simp [intOf]; omega
        · obtain rfl : k = n0 := by omega
          have HP2 : Hid (partsE y = or0 (chkAll (lW y)) (chkAll (lP y))) := by
            show _ = _
            rw [HP.out, ← hg.out, chkGo_end (lS y) k (by simp [lS, HL0.out])]; rfl
          clear hg hlt hk HP
          by_cases h9 : 8 < n1
          · have HR : Hid (partsE y = 5) := by
              show _ = _
              rw [HP2.out, chkAll_big (by simp [lW, HL1.out]; omega)]; rfl
            have hd9 : (8 : Int) < (n1 : Int) := by omega
            go_wp2_with fail
            go_ret
            exact ⟨by rw [HR.out]; rfl, bl_⟩
          · have hn18 : n1 ≤ 8 := by omega
            have hd8 : ¬ (8 : Int) < (n1 : Int) := by omega
            have HP3 : Hid (partsE y = or0 (chkGo [] (lW y)) (chkAll (lP y))) := by
              show _ = _
              rw [HP2.out, chkAll_small (by simp [lW, HL1.out]; omega)]
            clear h9 HP2
            go_wp2_with fail
            go_loopw [6] (fun i wr => ∃ j : Nat, j ≤ n1 ∧ i = .int .i64 j ∧ Hid (chkGo (((lW y).take j).map Prod.fst) ((lW y).drop j) = chkGo [] (lW y)) ∧ Below w.heap.size w wr ∧ Blk wr w.heap.size 26 #[.slice A0 k c0, .slice A1 n1 c1, .slice A2 n2 c2]) (fun i _ => n1 - (intOf i).toNat)
            case atStart => exact ⟨0, by omega, rfl, Lib.hid rfl, hb, BY.out⟩
            case round =>
              clear cY lY hb hsr BY
              obtain ⟨j, hk, rfl, hg, hb, bY⟩ := hrel
              have hsr := hb.size
              have cY := bY.cell
              have lY := bY.lt
              have BY := Lib.hid bY
              clear bY
              by_cases hlt : j < n1
              · have hkl : j < y.w.length := by rw [HL1.out]; exact hlt
                have HG : Hid (chkGo (((lW y).take j).map Prod.fst) ((lW y).drop j) = if chkOne ((y.w.map Sw.n).take j) y.w[j].n (swE k y.w[j]) = 0 then chkGo (((lW y).take (j + 1)).map Prod.fst) ((lW y).drop (j + 1)) else chkOne ((y.w.map Sw.n).take j) y.w[j].n (swE k y.w[j])) := by
                  show _ = _
                  rw [chkGo_at (lW y) j (by simp [lW]; exact hkl)]
                  have e1 : ((lW y).take j).map Prod.fst = (y.w.map Sw.n).take j := by
                    rw [List.map_take]; congr 1; simp [lW]
                  have e2 : (lW y)[j]'(by simp [lW]; exact hkl) = (y.w[j].n, swE k y.w[j]) := by simp [lW, HL0.out]
                  rw [e1, e2]
                have HCk := Lib.hid (fun W hW => HCs.out W hW j hkl)
                generalize chkOne ((y.w.map Sw.n).take j) y.w[j].n (swE k y.w[j]) = ee at *
                cases hz : (ee != 0) with
                | true =>
                  have HR : Hid (partsE y = ee) := by
                    show _ = _
                    have hne : ee ≠ 0 := by simpa using hz
                    rw [HP3.out, ← hg.out, HG.out, if_neg hne, or0, if_neg hne]
                  go_wp2_with fail
                  refine (HCk.out _ bl_).mono ?_
                  (rintro e w7 ⟨rfl, hb7⟩; have hs7 := hb7.size; (try simp at hs7))
                  go_wp2_with fail
                  go_ret
                  exact ⟨by rw [HR.out]; rfl, bl_⟩
                | false =>
                  obtain rfl : ee = 0 := by simpa using hz
                  have HR : Hid (chkGo (((lW y).take (j + 1)).map Prod.fst) ((lW y).drop (j + 1)) = chkGo [] (lW y)) := by
                    show _ = _
                    rw [← hg.out, HG.out, if_pos rfl]
                  go_wp2_with fail
                  refine (HCk.out _ bl_).mono ?_
                  (rintro e w7 ⟨rfl, hb7⟩; have hs7 := hb7.size; (try simp at hs7))
                  go_wp2_with fail
                  go_roundw
                  case rel => exact ⟨j + 1, by omega, by go_num, HR, bl_, BY.out.kept bl_⟩
                  case measure => simp [intOf]; omega
              · obtain rfl : j = n1 := by omega
                have HP4 : Hid (partsE y = chkAll (lP y)) := by
                  show _ = _
                  rw [HP3.out, ← hg.out, chkGo_end (lW y) j (by simp [lW, HL1.out])]; rfl
                clear hg hlt hk HP3
                by_cases h9 : 8 < n2
                · have HR : Hid (partsE y = 5) := by
                    show _ = _
                    rw [HP4.out, chkAll_big (by simp [lP, HL2.out]; omega)]
                  have hd9 : (8 : Int) < (n2 : Int) := by omega
                  go_wp2_with fail
                  go_ret
                  exact ⟨by rw [HR.out]; rfl, bl_⟩
                · have hn28 : n2 ≤ 8 := by omega
                  have hd28 : ¬ (8 : Int) < (n2 : Int) := by omega
                  have HP5 : Hid (partsE y = chkGo [] (lP y)) := by
                    show _ = _
                    rw [HP4.out, chkAll_small (by simp [lP, HL2.out]; omega)]
                  clear h9 HP4
                  go_wp2_with fail
                  go_loopw [8] (fun i wr => ∃ q : Nat, q ≤ n2 ∧ i = .int .i64 q ∧ Hid (chkGo (((lP y).take q).map Prod.fst) ((lP y).drop q) = chkGo [] (lP y)) ∧ Below w.heap.size w wr ∧ Blk wr w.heap.size 26 #[.slice A0 k c0, .slice A1 j c1, .slice A2 n2 c2]) (fun i _ => n2 - (intOf i).toNat)
                  case atStart => exact ⟨0, by omega, rfl, Lib.hid rfl, hb, BY.out⟩
                  case round =>
                    clear cY lY hb hsr BY
                    obtain ⟨q, hk, rfl, hg, hb, bY⟩ := hrel
                    have hsr := hb.size
                    have cY := bY.cell
                    have lY := bY.lt
                    have BY := Lib.hid bY
                    clear bY
                    by_cases hlt : q < n2
                    · have hkl : q < y.p.length := by rw [HL2.out]; exact hlt
                      obtain ⟨b, o, eA, hbb, z0, z1⟩ := HA2.out q hkl
                      have kb : ∀ i, wr.cell? ⟨b, i, none⟩ = w.cell? ⟨b, i, none⟩ := fun i => hb.cell (p := ⟨b, i, none⟩) (by simp; omega)
                      rw [← kb] at z0 z1
                      clear kb
                      subst eA
                      have hbw : b < wr.heap.size := by omega
                      have HG : Hid (chkGo (((lP y).take q).map Prod.fst) ((lP y).drop q) = if firstE [nameE y.p[q].n, whenE (hasW ((y.p.map Pm.n).take q) y.p[q].n) 9, whenE (!hasN k y.p[q].s) 10] = 0 then chkGo (((lP y).take (q + 1)).map Prod.fst) ((lP y).drop (q + 1)) else firstE [nameE y.p[q].n, whenE (hasW ((y.p.map Pm.n).take q) y.p[q].n) 9, whenE (!hasN k y.p[q].s) 10]) := by
                        show _ = _
                        rw [chkGo_at (lP y) q (by simp [lP]; exact hkl)]
                        have e1 : ((lP y).take q).map Prod.fst = (y.p.map Pm.n).take q := by
                          rw [List.map_take]; congr 1; simp [lP]
                        have e2 : (lP y)[q]'(by simp [lP]; exact hkl) = (y.p[q].n, whenE (!hasN k y.p[q].s) 10) := by simp [lP, HL0.out]
                        rw [e1, e2]
                        unfold chkOne
                        rw [first_three]
                      have hns := HpN.out _ (List.getElem_mem hkl)
                      have HFk := Lib.hid (fun W hW => HFp.out W hW y.p[q].n q hk)
                      have HFh := Lib.hid (find_has ((y.p.map Pm.n).take q) y.p[q].n)
                      rw [← HFh.out] at HG
                      clear HFh
                      generalize findI ((y.p.map Pm.n).take q) y.p[q].n = fi at *
                      generalize y.p[q] = x at *
                      obtain ⟨xn, xs⟩ := x
                      dsimp only at z0 z1 hns HFk HG
                      have HHs := Lib.hid (fun W => has_any A0 A1 (some ⟨b, o, none⟩) k j n2 c0 c1 c2 xs W)
                      change Hid (∀ W, Calls Tryz.prog 144 _ W fun e w' => e = .returned (.bool (hasN k xs)) ∧ _) at HHs
                      have HCN := Lib.hid (fun W => CheckName_any xn W hns)
                      have HW2 := Lib.hid (fun W => rWhen_any (decide (0 ≤ fi)) 9 W)
                      have HW3 := Lib.hid (fun W => rWhen_any (!hasN k xs) 10 W)
                      clear hns
                      generalize nameE xn = a1 at *
                      generalize whenE (decide (0 ≤ fi)) 9 = a2 at *
                      generalize whenE (!hasN k xs) 10 = a3 at *
                      generalize hasN k xs = hq at *
                      generalize hee : firstE [a1, a2, a3] = ee at *
                      have HEQ := Lib.hid hee
                      clear hee
                      cases hz : (ee != 0) with
                      | true =>
                        have HR : Hid (partsE y = ee) := by
                          show _ = _
                          have hne : ee ≠ 0 := by simpa using hz
                          rw [HP5.out, ← hg.out, HG.out, if_neg hne]
                        go_wp2_with fail
                        (refine wp_region_calm [] [0, 1, 2, 3, 4, 5, 6, 7, 8, 9, 10, 11, 12, 13, 14, 15, 16, 17, 18, 19, 20, 21, 22, 23, 24, 25, 26, 27] 3 (by kernel_rfl) rfl (by kernel_rfl) (by kernel_rfl) (by kernel_rfl) ?_; simp only [pickB, List.filterMap_cons, List.filterMap_nil, List.getElem?_toArray, List.getElem?_cons_zero, List.getElem?_cons_succ]; (repeat (first | ((first | (with_reducible refine quietL_plain rfl (fun K hK => ?_)) | (with_reducible refine quietL_want (by with_unfolding_all rfl) (fun K hK => ?_))); (apply Exists.intro; refine ⟨fun wx hx => ?_, ?_⟩; (· (have hcx := ifs_ex hx); simp [go_sem, *, ↓IntWalk.iteOmega] <;> (first | rfl | exact ⟨rfl, rfl⟩ | (have hbx := Ex.belowW hx; have hby : Below w.heap.size w wx := bl_; first | (with_reducible exact calls_B (calls_below (HW2.out _))) | (with_reducible exact calls_B (calls_below (HW3.out _))) | (with_reducible exact calls_B (calls_below (HCN.out _))) | (with_reducible exact calls_B (HHs.out _)) | (with_reducible exact calls_B (HFk.out _ (by assumption)))))); (simp only [Act.put, List.setIfInBounds_toArray, List.set_cons_zero, List.set_cons_succ]; refine hK _ ?_; clear hK K))) | ((with_reducible refine quietL_skip (by with_unfolding_all rfl) ?_); simp only [Act.put, List.setIfInBounds_toArray, List.set_cons_zero, List.set_cons_succ]))); refine quietL_nil ?_)
                        (refine anyB_one (i := 28) (by kernel_rfl) rfl rfl ?_; intro w7 hb7 K hK; obtain ⟨hc7, hf7⟩ := ifs_of hb7; have hs7 := hb7.size; (try simp at hs7); go_wp2; refine ⟨xs_, ?_⟩)
                        (refine anyB_one (i := 29) (by kernel_rfl) rfl rfl ?_; intro w8 hb8 K hK; obtain ⟨hc8, hf8⟩ := ifs_of hb8; have hs8 := hb8.size; (try simp at hs8); go_wp2_with fail; refine (rFirst_any (w7.heap.size + 1) _ 3 3 [a1, a2, a3] _ ((by simpa using Reads.new (size := 1) w7 (([a1, a2, a3]).map (.int .i64)).toArray 3 3 rfl : Reads (w7.alloc (.cells (([a1, a2, a3]).map (.int .i64)).toArray 3)) (w7.heap.size + 1) 1 (some ⟨w7.heap.size, 0, none⟩) 3 (([a1, a2, a3]).map (.int .i64))).below (hb8.mono (by simp))) (by unfold maxLen; decide)).mono ?_; rintro e w8' ⟨rfl, rfl⟩; go_wp2; refine ⟨xs_, ?_⟩)
                        rw [HEQ.out]
                        (refine anyB_one (i := 30) (by kernel_rfl) rfl rfl ?_; intro w9 hb9 K hK; obtain ⟨hc9, hf9⟩ := ifs_of hb9; have hs9 := hb9.size; (try simp at hs9); go_wp2; refine ⟨xs_, ?_⟩)
                        (refine anyB_end (by kernel_rfl) ?_; intro wa hba; obtain ⟨hca, hfa⟩ := ifs_of hba; have hsa := hba.size; (try simp at hsa); simp only [Calm]; go_wp2_with fail)
                        go_ret
                        exact ⟨by rw [HR.out]; rfl, bl_⟩
                      | false =>
                        obtain rfl : ee = 0 := by simpa using hz
                        have HR : Hid (chkGo (((lP y).take (q + 1)).map Prod.fst) ((lP y).drop (q + 1)) = chkGo [] (lP y)) := by
                          show _ = _
                          rw [← hg.out, HG.out, if_pos rfl]
                        go_wp2_with fail
                        (refine wp_region_calm [] [0, 1, 2, 3, 4, 5, 6, 7, 8, 9, 10, 11, 12, 13, 14, 15, 16, 17, 18, 19, 20, 21, 22, 23, 24, 25, 26, 27] 3 (by kernel_rfl) rfl (by kernel_rfl) (by kernel_rfl) (by kernel_rfl) ?_; simp only [pickB, List.filterMap_cons, List.filterMap_nil, List.getElem?_toArray, List.getElem?_cons_zero, List.getElem?_cons_succ]; (repeat (first | ((first | (with_reducible refine quietL_plain rfl (fun K hK => ?_)) | (with_reducible refine quietL_want (by with_unfolding_all rfl) (fun K hK => ?_))); (apply Exists.intro; refine ⟨fun wx hx => ?_, ?_⟩; (· (have hcx := ifs_ex hx); simp [go_sem, *, ↓IntWalk.iteOmega] <;> (first | rfl | exact ⟨rfl, rfl⟩ | (have hbx := Ex.belowW hx; have hby : Below w.heap.size w wx := bl_; first | (with_reducible exact calls_B (calls_below (HW2.out _))) | (with_reducible exact calls_B (calls_below (HW3.out _))) | (with_reducible exact calls_B (calls_below (HCN.out _))) | (with_reducible exact calls_B (HHs.out _)) | (with_reducible exact calls_B (HFk.out _ (by assumption)))))); (simp only [Act.put, List.setIfInBounds_toArray, List.set_cons_zero, List.set_cons_succ]; refine hK _ ?_; clear hK K))) | ((with_reducible refine quietL_skip (by with_unfolding_all rfl) ?_); simp only [Act.put, List.setIfInBounds_toArray, List.set_cons_zero, List.set_cons_succ]))); refine quietL_nil ?_)
                        (refine anyB_one (i := 28) (by kernel_rfl) rfl rfl ?_; intro w7 hb7 K hK; obtain ⟨hc7, hf7⟩ := ifs_of hb7; have hs7 := hb7.size; (try simp at hs7); go_wp2; refine ⟨xs_, ?_⟩)
                        (refine anyB_one (i := 29) (by kernel_rfl) rfl rfl ?_; intro w8 hb8 K hK; obtain ⟨hc8, hf8⟩ := ifs_of hb8; have hs8 := hb8.size; (try simp at hs8); go_wp2_with fail; refine (rFirst_any (w7.heap.size + 1) _ 3 3 [a1, a2, a3] _ ((by simpa using Reads.new (size := 1) w7 (([a1, a2, a3]).map (.int .i64)).toArray 3 3 rfl : Reads (w7.alloc (.cells (([a1, a2, a3]).map (.int .i64)).toArray 3)) (w7.heap.size + 1) 1 (some ⟨w7.heap.size, 0, none⟩) 3 (([a1, a2, a3]).map (.int .i64))).below (hb8.mono (by simp))) (by unfold maxLen; decide)).mono ?_; rintro e w8' ⟨rfl, rfl⟩; go_wp2; refine ⟨xs_, ?_⟩)
                        rw [HEQ.out]
                        (refine anyB_one (i := 30) (by kernel_rfl) rfl rfl ?_; intro w9 hb9 K hK; obtain ⟨hc9, hf9⟩ := ifs_of hb9; have hs9 := hb9.size; (try simp at hs9); go_wp2; refine ⟨xs_, ?_⟩)
                        (refine anyB_end (by kernel_rfl) ?_; intro wa hba; obtain ⟨hca, hfa⟩ := ifs_of hba; have hsa := hba.size; (try simp at hsa); simp only [Calm]; go_wp2_with fail)
                        go_roundw
                        case rel => exact ⟨q + 1, by omega, by go_num, HR, bl_, BY.out.kept bl_⟩
                        case measure => simp [intOf]; omega
                    · obtain rfl : q = n2 := by omega
                      have HR : Hid (partsE y = 0) := by
                        show _ = _
                        rw [HP5.out, ← hg.out, chkGo_end (lP y) q (by simp [lP, HL2.out])]
                      go_wp2_with fail
                      go_ret
                      exact ⟨by rw [HR.out]; rfl, bl_⟩
theorem rCheckParts_any (B : Nat) (A0 A1 A2 : Option Addr) (n0 n1 n2 c0 c1 c2 : Nat) (y : Yd) (w : World) (hY : YdAt w B A0 A1 A2 n0 n1 n2 y) (hB : B ≤ w.heap.size) (hF : Fits y) :
    Calls Tryz.prog 72 #[.agg #[.slice A0 n0 c0, .slice A1 n1 c1, .slice A2 n2 c2]] w fun e w' => e = .returned (.int .i64 (partsE y)) ∧ Below w.heap.size w w' := rCheckPartsL_any B A0 A1 A2 n0 n1 n2 c0 c1 c2 y w hY hB hF.long
end Go.Proofs.YtphlojgmfkgeiaaGreatDoor
/- Reference: the error of a yard. -/
namespace Go.Proofs.YtphlojgmfkgeiaaGreatDoor
open Go.RowKit Go.Sort Go.Shelf
set_option linter.unusedSimpArgs false
set_option linter.unusedVariables false
attribute [local go_sem] cell_if frozen_if grow_cell
theorem rCheckYardL_any (B : Nat) (A0 A1 A2 : Option Addr) (n0 n1 n2 c0 c1 c2 : Nat) (y : Yd) (w : World) (hY : YdAt w B A0 A1 A2 n0 n1 n2 y) (hB : B ≤ w.heap.size) (hF : FitsL y) :
    Calls Tryz.prog 17 #[.agg #[.slice A0 n0 c0, .slice A1 n1 c1, .slice A2 n2 c2]] w fun e w' => e = .returned (.int .i64 (yardE y)) ∧ Below w.heap.size w w' := by
  have HC := Lib.hid (fun W (hW : Below w.heap.size w W) => rCheckPartsL_any B A0 A1 A2 n0 n1 n2 c0 c1 c2 y W (hY.below (hW.mono hB)) (by have := hW.size; omega) hF)
  have HS := Lib.hid (fun W (hW : Below w.heap.size w W) (hP : Parts y) => Sound_any B A0 A1 A2 n0 n1 n2 c0 c1 c2 y W (hY.below (hW.mono hB)) (by have := hW.size; omega) hP)
  have HPp := Lib.hid (fun h : partsE y = 0 => parts_of h)
  have HW := Lib.hid (fun W => rWhen_any (!soundB y) 22 W)
  unfold yardE
  clear hY hF
  generalize partsE y = ee at *
  generalize whenE (!soundB y) 22 = v at *
  generalize soundB y = q at *
  cases hz : (ee != 0) with
  | true =>
    have HR : Hid (or0 ee v = ee) := by show _ = _; rw [or0, if_neg (by simpa using hz)]
    rw [HR.out]
    go_enter Tryz.func17, Tryz.ntmps17
    go_wp2_with fail
    refine (HC.out _ bl_).mono ?_
    (rintro e w1 ⟨rfl, hb1⟩; have hs1 := hb1.size; (try simp at hs1))
    go_wp2_with fail
    go_ret
    exact ⟨rfl, bl_⟩
  | false =>
    obtain rfl : ee = 0 := by simpa using hz
    have HS' := Lib.hid (fun W hW => HS.out W hW (HPp.out rfl))
    rw [show or0 0 v = v from rfl]
    go_enter Tryz.func17, Tryz.ntmps17
    go_wp2_with fail
    refine (HC.out _ bl_).mono ?_
    (rintro e w1 ⟨rfl, hb1⟩; have hs1 := hb1.size; (try simp at hs1))
    obtain ⟨hc1, hf1⟩ := ifs_of hb1; have hs1 := hb1.size; (try simp at hs1)
    go_wp2_with fail
    refine (HS'.out _ bl_).mono ?_
    (rintro e w2 ⟨rfl, hb2⟩; have hs2 := hb2.size; (try simp at hs2))
    go_wp2_with fail
    refine (HW.out _).mono ?_
    rintro e w3 ⟨rfl, rfl⟩
    go_wp2_with fail
    go_ret
    exact ⟨rfl, bl_⟩
theorem rCheckYard_any (B : Nat) (A0 A1 A2 : Option Addr) (n0 n1 n2 c0 c1 c2 : Nat) (y : Yd) (w : World) (hY : YdAt w B A0 A1 A2 n0 n1 n2 y) (hB : B ≤ w.heap.size) (hF : Fits y) :
    Calls Tryz.prog 17 #[.agg #[.slice A0 n0 c0, .slice A1 n1 c1, .slice A2 n2 c2]] w fun e w' => e = .returned (.int .i64 (yardE y)) ∧ Below w.heap.size w w' := rCheckYardL_any B A0 A1 A2 n0 n1 n2 c0 c1 c2 y w hY hB hF.long
end Go.Proofs.YtphlojgmfkgeiaaGreatDoor
/- Reference: the sections that are something. -/
namespace Go.Proofs.YtphlojgmfkgeiaaGreatDoor
open Go.RowKit Go.Sort Go.Shelf
set_option linter.unusedSimpArgs false
set_option linter.unusedVariables false
attribute [local go_sem] cell_if frozen_if grow_cell
set_option maxRecDepth 100000 in
set_option maxHeartbeats 2000000 in
theorem Sections_en (B : Nat) (A0 A1 A2 : Option Addr) (n0 n1 n2 c0 c1 c2 : Nat) (y : Yd) (w : World) (hY : YdAt w B A0 A1 A2 n0 n1 n2 y) (hB : B ≤ w.heap.size) (hP : Parts y) (what : ByteArray) (e1 : (what.toList == [101, 110, 101, 114, 103, 105, 122, 101, 100]) = true) (e2 : (what.toList == [101, 97, 114, 116, 104, 101, 100]) = false) (e3 : (what.toList == [115, 101, 112, 97, 114, 97, 116, 101, 100]) = false) (e4 : (what.toList == [115, 101, 99, 117, 114, 101, 100]) = false) :
    Calls Tryz.prog 35 #[.agg #[.slice A0 n0 c0, .slice A1 n1 c1, .slice A2 n2 c2], .string what] w (IntsRow w (those y.s.length (energB y))) := by
  have hl0 := (sec_at hY.hs).1
  have HE := Lib.hid (fun W (hW : Below w.heap.size w W) i hi => IsEnergized_any B A0 A1 A2 n0 n1 n2 c0 c1 c2 y W (hY.below (hW.mono hB)) (by have := hW.size; omega) hP i hi)
  have h8 := hP.n8
  have hn0 : n0 ≤ 8 := hl0 ▸ h8
  have HL0 := Lib.hid hl0
  clear hY hP hl0 h8
  go_enter Tryz.func35, Tryz.ntmps35
  go_wp2_with fail
  go_loopw [5, 6] (fun v i wr => ∃ k : Nat, k ≤ n0 ∧ i = .int .i64 k ∧ wr.ownsRow w.heap.size 3 1 v (those k (energB y)).length ((those k (energB y)).map (.int .i64)) ∧ Below w.heap.size w wr ∧ Blk wr w.heap.size 26 #[.slice A0 n0 c0, .slice A1 n1 c1, .slice A2 n2 c2]) (fun _ i _ => n0 - (intOf i).toNat)
  case atStart => exact ⟨0, by omega, rfl, World.ownsRow_nil _ _ _ _, bl_, bk_⟩
  case round =>
    obtain ⟨k, hk, rfl, hO, hb, bY⟩ := hrel
    have hsr := hb.size
    have cY := bY.cell
    have lY := bY.lt
    have BY := Lib.hid bY
    have HO := Lib.hid hO
    clear bY hO
    by_cases hlt : k < n0
    · have hin : (k : Int) ∈ rng y.s.length := mem_rng.2 ⟨by omega, by have := HL0.out; omega⟩
      have HE' := Lib.hid (fun W hW => HE.out W hW k hin)
      have Hs := Lib.hid (those_succ k (energB y))
      have hl := those_len k (energB y)
      clear hin HE
      generalize energB y (k : Int) = p at *
      generalize those k (energB y) = zs at *
      cases p with
      | false =>
        go_wp2_with fail
        refine (HE'.out _ bl_).mono ?_
        (rintro e w1 ⟨rfl, hb1⟩; have hs1 := hb1.size; (try simp at hs1))
        have HO1 := Lib.hid (own_kept HO.out (bl_ : Below wr.heap.size wr w1))
        obtain ⟨hc1, hf1⟩ := ifs_of hb1; have hs1 := hb1.size; (try simp at hs1)
        go_wp2_with fail
        go_roundw
        case rel => exact ⟨k + 1, by omega, by go_num, by rw [Hs.out]; simpa using HO1.out, bl_, BY.out.kept bl_⟩
        case measure => simp [intOf]; omega
      | true =>
        go_wp2_with fail
        refine (HE'.out _ bl_).mono ?_
        (rintro e w1 ⟨rfl, hb1⟩; have hs1 := hb1.size; (try simp at hs1))
        have HO1 := Lib.hid (own_kept HO.out (bl_ : Below wr.heap.size wr w1))
        have BY1 := Lib.hid (BY.out.kept (bl_ : Below wr.heap.size wr w1))
        have HB1 := Lib.hid (bl_ : Below w.heap.size w w1)
        obtain ⟨hc1, hf1⟩ := ifs_of hb1; have hs1 := hb1.size; (try simp at hs1)
        go_wp2_with (at_builtin; refine wpList_app 29 3 1 8 elemInt rfl (.tmp 48) (.tmp 50) rfl w.heap.size _ zs.length _ rfl HO1.out 1 rfl rfl ?h1 (by decide) ?h3 (by omega) (by omega) ?_)
        case h1 => rfl
        case h3 => unfold maxLen; omega
        intro g' cap' w' hown' hb' hk' hs'
        have BY' := Lib.hid (hk' _ _ _ BY1.out (row_own_neW HO1.out BY1.out (by decide)))
        clear hk'
        go_wp2
        go_roundw
        case rel => exact ⟨k + 1, by omega, by go_num, by rw [Hs.out]; simpa using hown', HB1.out.trans hb', BY'.out⟩
        case measure => simp [intOf]; omega
    · obtain rfl : k = n0 := by omega
      obtain ⟨A', cap', rfl, _⟩ := own_form HO.out
      go_wp2_with fail
      go_ret
      rw [HL0.out]
      exact ⟨A', cap', rfl, HO.out, hb⟩
set_option maxRecDepth 100000 in
set_option maxHeartbeats 2000000 in
theorem Sections_ea (B : Nat) (A0 A1 A2 : Option Addr) (n0 n1 n2 c0 c1 c2 : Nat) (y : Yd) (w : World) (hY : YdAt w B A0 A1 A2 n0 n1 n2 y) (hB : B ≤ w.heap.size) (hP : Parts y) (what : ByteArray) (e1 : (what.toList == [101, 110, 101, 114, 103, 105, 122, 101, 100]) = false) (e2 : (what.toList == [101, 97, 114, 116, 104, 101, 100]) = true) (e3 : (what.toList == [115, 101, 112, 97, 114, 97, 116, 101, 100]) = false) (e4 : (what.toList == [115, 101, 99, 117, 114, 101, 100]) = false) :
    Calls Tryz.prog 35 #[.agg #[.slice A0 n0 c0, .slice A1 n1 c1, .slice A2 n2 c2], .string what] w (IntsRow w (those y.s.length (earthedB y))) := by
  have hl0 := (sec_at hY.hs).1
  have HE := Lib.hid (fun W (hW : Below w.heap.size w W) i hi => IsEarthed_any B A0 A1 A2 n0 n1 n2 c0 c1 c2 y W (hY.below (hW.mono hB)) (by have := hW.size; omega) hP i hi)
  have h8 := hP.n8
  have hn0 : n0 ≤ 8 := hl0 ▸ h8
  have HL0 := Lib.hid hl0
  clear hY hP hl0 h8
  go_enter Tryz.func35, Tryz.ntmps35
  go_wp2_with fail
  go_loopw [5, 6] (fun v i wr => ∃ k : Nat, k ≤ n0 ∧ i = .int .i64 k ∧ wr.ownsRow w.heap.size 3 1 v (those k (earthedB y)).length ((those k (earthedB y)).map (.int .i64)) ∧ Below w.heap.size w wr ∧ Blk wr w.heap.size 26 #[.slice A0 n0 c0, .slice A1 n1 c1, .slice A2 n2 c2]) (fun _ i _ => n0 - (intOf i).toNat)
  case atStart => exact ⟨0, by omega, rfl, World.ownsRow_nil _ _ _ _, bl_, bk_⟩
  case round =>
    obtain ⟨k, hk, rfl, hO, hb, bY⟩ := hrel
    have hsr := hb.size
    have cY := bY.cell
    have lY := bY.lt
    have BY := Lib.hid bY
    have HO := Lib.hid hO
    clear bY hO
    by_cases hlt : k < n0
    · have hin : (k : Int) ∈ rng y.s.length := mem_rng.2 ⟨by omega, by have := HL0.out; omega⟩
      have HE' := Lib.hid (fun W hW => HE.out W hW k hin)
      have Hs := Lib.hid (those_succ k (earthedB y))
      have hl := those_len k (earthedB y)
      clear hin HE
      generalize earthedB y (k : Int) = p at *
      generalize those k (earthedB y) = zs at *
      cases p with
      | false =>
        go_wp2_with fail
        refine (HE'.out _ bl_).mono ?_
        (rintro e w1 ⟨rfl, hb1⟩; have hs1 := hb1.size; (try simp at hs1))
        have HO1 := Lib.hid (own_kept HO.out (bl_ : Below wr.heap.size wr w1))
        obtain ⟨hc1, hf1⟩ := ifs_of hb1; have hs1 := hb1.size; (try simp at hs1)
        go_wp2_with fail
        go_roundw
        case rel => exact ⟨k + 1, by omega, by go_num, by rw [Hs.out]; simpa using HO1.out, bl_, BY.out.kept bl_⟩
        case measure => simp [intOf]; omega
      | true =>
        go_wp2_with fail
        refine (HE'.out _ bl_).mono ?_
        (rintro e w1 ⟨rfl, hb1⟩; have hs1 := hb1.size; (try simp at hs1))
        have HO1 := Lib.hid (own_kept HO.out (bl_ : Below wr.heap.size wr w1))
        have BY1 := Lib.hid (BY.out.kept (bl_ : Below wr.heap.size wr w1))
        have HB1 := Lib.hid (bl_ : Below w.heap.size w w1)
        obtain ⟨hc1, hf1⟩ := ifs_of hb1; have hs1 := hb1.size; (try simp at hs1)
        go_wp2_with (at_builtin; refine wpList_app 29 3 1 8 elemInt rfl (.tmp 48) (.tmp 50) rfl w.heap.size _ zs.length _ rfl HO1.out 1 rfl rfl ?h1 (by decide) ?h3 (by omega) (by omega) ?_)
        case h1 => rfl
        case h3 => unfold maxLen; omega
        intro g' cap' w' hown' hb' hk' hs'
        have BY' := Lib.hid (hk' _ _ _ BY1.out (row_own_neW HO1.out BY1.out (by decide)))
        clear hk'
        go_wp2
        go_roundw
        case rel => exact ⟨k + 1, by omega, by go_num, by rw [Hs.out]; simpa using hown', HB1.out.trans hb', BY'.out⟩
        case measure => simp [intOf]; omega
    · obtain rfl : k = n0 := by omega
      obtain ⟨A', cap', rfl, _⟩ := own_form HO.out
      go_wp2_with fail
      go_ret
      rw [HL0.out]
      exact ⟨A', cap', rfl, HO.out, hb⟩
set_option maxRecDepth 100000 in
set_option maxHeartbeats 2000000 in
theorem Sections_sp (B : Nat) (A0 A1 A2 : Option Addr) (n0 n1 n2 c0 c1 c2 : Nat) (y : Yd) (w : World) (hY : YdAt w B A0 A1 A2 n0 n1 n2 y) (hB : B ≤ w.heap.size) (hP : Parts y) (what : ByteArray) (e1 : (what.toList == [101, 110, 101, 114, 103, 105, 122, 101, 100]) = false) (e2 : (what.toList == [101, 97, 114, 116, 104, 101, 100]) = false) (e3 : (what.toList == [115, 101, 112, 97, 114, 97, 116, 101, 100]) = true) (e4 : (what.toList == [115, 101, 99, 117, 114, 101, 100]) = false) :
    Calls Tryz.prog 35 #[.agg #[.slice A0 n0 c0, .slice A1 n1 c1, .slice A2 n2 c2], .string what] w (IntsRow w (those y.s.length (sepB y))) := by
  have hl0 := (sec_at hY.hs).1
  have HE := Lib.hid (fun W (hW : Below w.heap.size w W) i hi => IsSeparated_any B A0 A1 A2 n0 n1 n2 c0 c1 c2 y W (hY.below (hW.mono hB)) (by have := hW.size; omega) hP i hi)
  have h8 := hP.n8
  have hn0 : n0 ≤ 8 := hl0 ▸ h8
  have HL0 := Lib.hid hl0
  clear hY hP hl0 h8
  go_enter Tryz.func35, Tryz.ntmps35
  go_wp2_with fail
  go_loopw [5, 6] (fun v i wr => ∃ k : Nat, k ≤ n0 ∧ i = .int .i64 k ∧ wr.ownsRow w.heap.size 3 1 v (those k (sepB y)).length ((those k (sepB y)).map (.int .i64)) ∧ Below w.heap.size w wr ∧ Blk wr w.heap.size 26 #[.slice A0 n0 c0, .slice A1 n1 c1, .slice A2 n2 c2]) (fun _ i _ => n0 - (intOf i).toNat)
  case atStart => exact ⟨0, by omega, rfl, World.ownsRow_nil _ _ _ _, bl_, bk_⟩
  case round =>
    obtain ⟨k, hk, rfl, hO, hb, bY⟩ := hrel
    have hsr := hb.size
    have cY := bY.cell
    have lY := bY.lt
    have BY := Lib.hid bY
    have HO := Lib.hid hO
    clear bY hO
    by_cases hlt : k < n0
    · have hin : (k : Int) ∈ rng y.s.length := mem_rng.2 ⟨by omega, by have := HL0.out; omega⟩
      have HE' := Lib.hid (fun W hW => HE.out W hW k hin)
      have Hs := Lib.hid (those_succ k (sepB y))
      have hl := those_len k (sepB y)
      clear hin HE
      generalize sepB y (k : Int) = p at *
      generalize those k (sepB y) = zs at *
      cases p with
      | false =>
        go_wp2_with fail
        refine (HE'.out _ bl_).mono ?_
        (rintro e w1 ⟨rfl, hb1⟩; have hs1 := hb1.size; (try simp at hs1))
        have HO1 := Lib.hid (own_kept HO.out (bl_ : Below wr.heap.size wr w1))
        obtain ⟨hc1, hf1⟩ := ifs_of hb1; have hs1 := hb1.size; (try simp at hs1)
        go_wp2_with fail
        go_roundw
        case rel => exact ⟨k + 1, by omega, by go_num, by rw [Hs.out]; simpa using HO1.out, bl_, BY.out.kept bl_⟩
        case measure => simp [intOf]; omega
      | true =>
        go_wp2_with fail
        refine (HE'.out _ bl_).mono ?_
        (rintro e w1 ⟨rfl, hb1⟩; have hs1 := hb1.size; (try simp at hs1))
        have HO1 := Lib.hid (own_kept HO.out (bl_ : Below wr.heap.size wr w1))
        have BY1 := Lib.hid (BY.out.kept (bl_ : Below wr.heap.size wr w1))
        have HB1 := Lib.hid (bl_ : Below w.heap.size w w1)
        obtain ⟨hc1, hf1⟩ := ifs_of hb1; have hs1 := hb1.size; (try simp at hs1)
        go_wp2_with (at_builtin; refine wpList_app 29 3 1 8 elemInt rfl (.tmp 48) (.tmp 50) rfl w.heap.size _ zs.length _ rfl HO1.out 1 rfl rfl ?h1 (by decide) ?h3 (by omega) (by omega) ?_)
        case h1 => rfl
        case h3 => unfold maxLen; omega
        intro g' cap' w' hown' hb' hk' hs'
        have BY' := Lib.hid (hk' _ _ _ BY1.out (row_own_neW HO1.out BY1.out (by decide)))
        clear hk'
        go_wp2
        go_roundw
        case rel => exact ⟨k + 1, by omega, by go_num, by rw [Hs.out]; simpa using hown', HB1.out.trans hb', BY'.out⟩
        case measure => simp [intOf]; omega
    · obtain rfl : k = n0 := by omega
      obtain ⟨A', cap', rfl, _⟩ := own_form HO.out
      go_wp2_with fail
      go_ret
      rw [HL0.out]
      exact ⟨A', cap', rfl, HO.out, hb⟩
set_option maxRecDepth 100000 in
set_option maxHeartbeats 2000000 in
theorem Sections_sc (B : Nat) (A0 A1 A2 : Option Addr) (n0 n1 n2 c0 c1 c2 : Nat) (y : Yd) (w : World) (hY : YdAt w B A0 A1 A2 n0 n1 n2 y) (hB : B ≤ w.heap.size) (hP : Parts y) (what : ByteArray) (e1 : (what.toList == [101, 110, 101, 114, 103, 105, 122, 101, 100]) = false) (e2 : (what.toList == [101, 97, 114, 116, 104, 101, 100]) = false) (e3 : (what.toList == [115, 101, 112, 97, 114, 97, 116, 101, 100]) = false) (e4 : (what.toList == [115, 101, 99, 117, 114, 101, 100]) = true) :
    Calls Tryz.prog 35 #[.agg #[.slice A0 n0 c0, .slice A1 n1 c1, .slice A2 n2 c2], .string what] w (IntsRow w (those y.s.length (secB y))) := by
  have hl0 := (sec_at hY.hs).1
  have HE := Lib.hid (fun W (hW : Below w.heap.size w W) i hi => IsSecured_any B A0 A1 A2 n0 n1 n2 c0 c1 c2 y W (hY.below (hW.mono hB)) (by have := hW.size; omega) hP i hi)
  have h8 := hP.n8
  have hn0 : n0 ≤ 8 := hl0 ▸ h8
  have HL0 := Lib.hid hl0
  clear hY hP hl0 h8
  go_enter Tryz.func35, Tryz.ntmps35
  go_wp2_with fail
  go_loopw [5, 6] (fun v i wr => ∃ k : Nat, k ≤ n0 ∧ i = .int .i64 k ∧ wr.ownsRow w.heap.size 3 1 v (those k (secB y)).length ((those k (secB y)).map (.int .i64)) ∧ Below w.heap.size w wr ∧ Blk wr w.heap.size 26 #[.slice A0 n0 c0, .slice A1 n1 c1, .slice A2 n2 c2]) (fun _ i _ => n0 - (intOf i).toNat)
  case atStart => exact ⟨0, by omega, rfl, World.ownsRow_nil _ _ _ _, bl_, bk_⟩
  case round =>
    obtain ⟨k, hk, rfl, hO, hb, bY⟩ := hrel
    have hsr := hb.size
    have cY := bY.cell
    have lY := bY.lt
    have BY := Lib.hid bY
    have HO := Lib.hid hO
    clear bY hO
    by_cases hlt : k < n0
    · have hin : (k : Int) ∈ rng y.s.length := mem_rng.2 ⟨by omega, by have := HL0.out; omega⟩
      have HE' := Lib.hid (fun W hW => HE.out W hW k hin)
      have Hs := Lib.hid (those_succ k (secB y))
      have hl := those_len k (secB y)
      clear hin HE
      generalize secB y (k : Int) = p at *
      generalize those k (secB y) = zs at *
      cases p with
      | false =>
        go_wp2_with fail
        refine (HE'.out _ bl_).mono ?_
        (rintro e w1 ⟨rfl, hb1⟩; have hs1 := hb1.size; (try simp at hs1))
        have HO1 := Lib.hid (own_kept HO.out (bl_ : Below wr.heap.size wr w1))
        obtain ⟨hc1, hf1⟩ := ifs_of hb1; have hs1 := hb1.size; (try simp at hs1)
        go_wp2_with fail
        go_roundw
        case rel => exact ⟨k + 1, by omega, by go_num, by rw [Hs.out]; simpa using HO1.out, bl_, BY.out.kept bl_⟩
        case measure => simp [intOf]; omega
      | true =>
        go_wp2_with fail
        refine (HE'.out _ bl_).mono ?_
        (rintro e w1 ⟨rfl, hb1⟩; have hs1 := hb1.size; (try simp at hs1))
        have HO1 := Lib.hid (own_kept HO.out (bl_ : Below wr.heap.size wr w1))
        have BY1 := Lib.hid (BY.out.kept (bl_ : Below wr.heap.size wr w1))
        have HB1 := Lib.hid (bl_ : Below w.heap.size w w1)
        obtain ⟨hc1, hf1⟩ := ifs_of hb1; have hs1 := hb1.size; (try simp at hs1)
        go_wp2_with (at_builtin; refine wpList_app 29 3 1 8 elemInt rfl (.tmp 48) (.tmp 50) rfl w.heap.size _ zs.length _ rfl HO1.out 1 rfl rfl ?h1 (by decide) ?h3 (by omega) (by omega) ?_)
        case h1 => rfl
        case h3 => unfold maxLen; omega
        intro g' cap' w' hown' hb' hk' hs'
        have BY' := Lib.hid (hk' _ _ _ BY1.out (row_own_neW HO1.out BY1.out (by decide)))
        clear hk'
        go_wp2
        go_roundw
        case rel => exact ⟨k + 1, by omega, by go_num, by rw [Hs.out]; simpa using hown', HB1.out.trans hb', BY'.out⟩
        case measure => simp [intOf]; omega
    · obtain rfl : k = n0 := by omega
      obtain ⟨A', cap', rfl, _⟩ := own_form HO.out
      go_wp2_with fail
      go_ret
      rw [HL0.out]
      exact ⟨A', cap', rfl, HO.out, hb⟩
end Go.Proofs.YtphlojgmfkgeiaaGreatDoor
