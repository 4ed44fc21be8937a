/- Joined texts: ZQ VF. -/
import Derived.Test.YtphlojgmfkgeiaaGreatDoorKh
import Derived.Test.YtphlojgmfkgeiaaGreatDoorKi
/- What is reached; barriers; orders: the walks. -/
namespace Go.Proofs.YtphlojgmfkgeiaaGreatDoor
open Go.RowKit Go.Sort Go.Shelf
set_option linter.unusedSimpArgs false
set_option linter.unusedVariables false
attribute [local go_sem] cell_if frozen_if grow_cell
theorem search_never (y : Yd) : (searchL y fun _ => false).2 = none := by
  cases h : (searchL y fun _ => false).2 with
  | none => rfl
  | some p => have := (search_some h).2.1; cases this
theorem never_pred (y : Yd) (w : World) : PredY Tryz.prog 121 #[] #[] y (fun _ => false) w := fun W _ s _ A0 A1 A2 n0 n1 n2 c0 c1 c2 _ => by
  simpa using never_any A0 A1 A2 n0 n1 n2 c0 c1 c2 W
def holdsF (y : Yd) (gk gs : ByteArray) (s : Int) : Bool := holdsB gk gs (y.at s)
theorem holds_pred {y : Yd} (hP : Parts y) (hsn : ∀ x ∈ y.s, x.n.size ≤ maxLen) (gk gs : ByteArray) (hgs : gs.size ≤ maxLen) (h0 : 0 ≤ secAtB y gs) (w : World) : PredY Tryz.prog 83 #[.agg #[.string gk, .string gs]] #[] y (holdsF y gk gs) w := fun W _ s _ A0 A1 A2 n0 n1 n2 c0 c1 c2 hZ => by
  have h := holds_any W.heap.size A0 A1 A2 n0 n1 n2 c0 c1 c2 (y.at s) W hZ (Nat.le_refl _) (hP.at s) hsn gk gs hgs h0
  rw [show holdsB gk gs (y.at s) = holdsF y gk gs s from rfl] at h
  simpa using h
set_option maxRecDepth 100000 in
set_option maxHeartbeats 1000000 in
theorem Reached_any (B : Nat) (A0 A1 A2 : Option Addr) (n0 n1 n2 c0 c1 c2 : Nat) (y : Yd) (w : World) (hY : YdAt w B A0 A1 A2 n0 n1 n2 y) (hB : B ≤ w.heap.size) (hT : Tabs w) (hF : Fits y) : Calls Tryz.prog 44 #[.agg #[.slice A0 n0 c0, .slice A1 n1 c1, .slice A2 n2 c2]] w (IntsERes w (resI (yardE y) (reachL y)) (yardE y)) := by
  have H1 := Lib.hid (fun W (hW : Below w.heap.size w W) => CheckYard_any B A0 A1 A2 n0 n1 n2 c0 c1 c2 y W (hY.below (hW.mono hB)) (by have := hW.size; omega) (hT.kept hW) hF)
  cases he : (yardE y != 0) with
  | true =>
    have HE := Lib.hid (show yardE y ≠ 0 by simpa using he)
    have HR : Hid (resI (yardE y) (reachL y) = []) := by show _ = _; rw [resI, if_neg HE.out]
    rw [HR.out]
    clear hY hT hF
    generalize yardE y = ee at *
    go_enter Tryz.func44, Tryz.ntmps44
    go_wp2_with fail
    refine (H1.out _ bl_).mono ?_
    (rintro e w1 ⟨rfl, hb1⟩; have hs1 := hb1.size; (try simp at hs1))
    go_wp2_with fail
    go_ret2
    exact ⟨none, 0, rfl, Reads.nil_, bl_⟩
  | false =>
    have HE := Lib.hid (show yardE y = 0 by simpa using he)
    have HR : Hid (resI (yardE y) (reachL y) = reachL y) := by show _ = _; rw [resI, if_pos HE.out]
    rw [HR.out, HE.out]
    rw [HE.out] at H1
    have hP := (yard_ok HE.out).1
    have HS := Lib.hid (fun W (hW : Below w.heap.size w W) => search_any B A0 A1 A2 n0 n1 n2 c0 c1 c2 y W (hY.below (hW.mono hB)) (by have := hW.size; omega) hP 121 #[] #[] (fun _ => false) (enters_of Tryz.func121 (by kernel_rfl) rfl) (never_pred y W))
    have h2 := Lib.hid (search_never y)
    have h3 := Lib.hid (search_none (search_never y)).1
    clear he HE HR hT hF hY hP
    generalize hr : searchL y (fun _ => false) = r at *
    clear hr
    go_enter Tryz.func44, Tryz.ntmps44
    go_wp2_with fail
    refine (H1.out _ bl_).mono ?_
    (rintro e w1 ⟨rfl, hb1⟩; have hs1 := hb1.size; (try simp at hs1))
    obtain ⟨hc1, hf1⟩ := ifs_of hb1; have hs1 := hb1.size; (try simp at hs1)
    go_wp2_with fail
    refine (HS.out _ bl_).mono ?_
    rintro e w2 ⟨g, cap, v, rfl, hrd, _, hb2⟩
    have hs2 := hb2.size
    (try simp at hs2)
    have HRd := Lib.hid hrd
    clear hrd
    go_wp2_with fail
    go_ret2
    have hd := HRd.out
    rw [show sortI (r.1.map Pl.s) = reachL y by rw [h3.out]; rfl] at hd
    have hl : (reachL y).length = r.1.length := by have := hd.1; simpa using this
    exact ⟨_, cap, by rw [hl]; rfl, by rw [hl]; exact (hd.alloc (Nat.le_refl _) _).more (by simp), bl_⟩
def barrE (y : Yd) (gk gs : ByteArray) : Int := or0 (goalE y gk gs) (whenE (searchL y (holdsF y gk gs)).2.isSome 24)
def barrL (y : Yd) (gk gs : ByteArray) : List Int := sortI ((searchL y (holdsF y gk gs)).1.map Pl.s)
theorem goalE_zero {y : Yd} {gk gs : ByteArray} (h : goalE y gk gs = 0) : yardE y = 0 ∧ goalB gk = true ∧ 0 ≤ secAtB y gs := by
  unfold goalE at h
  rw [firstE_cons, firstE_cons, firstE_cons, firstE_nil] at h
  obtain ⟨h1, h⟩ := or0_zero h
  obtain ⟨h2, h⟩ := or0_zero h
  obtain ⟨h3, _⟩ := or0_zero h
  have h2 := whenE_zero (by decide) h2
  have h3 := whenE_zero (by decide) h3
  exact ⟨h1, by simpa using h2, by simpa using h3⟩
set_option maxRecDepth 100000 in
set_option maxHeartbeats 1000000 in
theorem Barrier_any (B : Nat) (A0 A1 A2 : Option Addr) (n0 n1 n2 c0 c1 c2 : Nat) (y : Yd) (w : World) (hY : YdAt w B A0 A1 A2 n0 n1 n2 y) (hB : B ≤ w.heap.size) (hT : Tabs w) (hF : Fits y) (gk gs : ByteArray) (hgs : gs.size ≤ maxLen) : Calls Tryz.prog 19 #[.agg #[.slice A0 n0 c0, .slice A1 n1 c1, .slice A2 n2 c2], .agg #[.string gk, .string gs]] w (IntsERes w (resI (barrE y gk gs) (barrL y gk gs)) (barrE y gk gs)) := by
  have H1 := Lib.hid (fun W (hW : Below w.heap.size w W) => checkGoal_any B A0 A1 A2 n0 n1 n2 c0 c1 c2 y W (hY.below (hW.mono hB)) (by have := hW.size; omega) (hT.kept hW) hF gk gs hgs)
  cases he : (goalE y gk gs != 0) with
  | true =>
    have HE := Lib.hid (show goalE y gk gs ≠ 0 by simpa using he)
    have HM : Hid (barrE y gk gs = goalE y gk gs) := by show _ = _; unfold barrE; rw [or0_neg HE.out]
    have HR : Hid (resI (goalE y gk gs) (barrL y gk gs) = []) := by show _ = _; rw [resI, if_neg HE.out]
    rw [HM.out, HR.out]
    clear hY hT hF HR HM
    generalize goalE y gk gs = ee at *
    go_enter Tryz.func19, Tryz.ntmps19
    go_wp2_with fail
    refine (H1.out _ bl_).mono ?_
    (rintro e w1 ⟨rfl, hb1⟩; have hs1 := hb1.size; (try simp at hs1))
    obtain ⟨hc1, hf1⟩ := ifs_of hb1; have hs1 := hb1.size; (try simp at hs1)
    go_wp2_with fail
    go_ret2
    exact ⟨none, 0, rfl, Reads.nil_, bl_⟩
  | false =>
    have HE := Lib.hid (show goalE y gk gs = 0 by simpa using he)
    obtain ⟨k1, k2, k3⟩ := goalE_zero HE.out
    have hP := (yard_ok k1).1
    have HS := Lib.hid (fun W (hW : Below w.heap.size w W) => search_any B A0 A1 A2 n0 n1 n2 c0 c1 c2 y W (hY.below (hW.mono hB)) (by have := hW.size; omega) hP 83 #[.agg #[.string gk, .string gs]] #[] (holdsF y gk gs) (enters_of Tryz.func83 (by kernel_rfl) rfl) (holds_pred hP hF.sn gk gs hgs k3 W))
    rw [HE.out] at H1
    have HM : Hid (barrE y gk gs = whenE (searchL y (holdsF y gk gs)).2.isSome 24) := by show _ = _; unfold barrE; rw [or0_pos HE.out]
    have HB : Hid (barrL y gk gs = sortI ((searchL y (holdsF y gk gs)).1.map Pl.s)) := Lib.hid rfl
    rw [HM.out, HB.out]
    clear he HE HM HB hT hF hY hP k1 k2 k3
    generalize searchL y (holdsF y gk gs) = r at *
    obtain ⟨ps, op⟩ := r
    cases op with
    | none =>
      go_enter Tryz.func19, Tryz.ntmps19
      go_wp2_with fail
      refine (H1.out _ bl_).mono ?_
      (rintro e w1 ⟨rfl, hb1⟩; have hs1 := hb1.size; (try simp at hs1))
      obtain ⟨hc1, hf1⟩ := ifs_of hb1; have hs1 := hb1.size; (try simp at hs1)
      go_wp2_with fail
      refine (HS.out _ bl_).mono ?_
      rintro e w2 ⟨g, cap, v, rfl, hrd, _, hb2⟩
      have hs2 := hb2.size
      (try simp at hs2)
      have HRd := Lib.hid hrd
      clear hrd
      obtain ⟨hc2, hf2⟩ := ifs_of hb2; have hs2 := hb2.size; (try simp at hs2)
      go_wp2_with fail
      go_ret2
      have hd := HRd.out
      have hl : (sortI (ps.map Pl.s)).length = ps.length := by have := hd.1; simpa using this
      exact ⟨_, cap, by show _ = Ending.returned (.tuple #[.slice _ (sortI (ps.map Pl.s)).length cap, .int .i64 0]); rw [hl]; rfl, by show Reads _ _ _ _ (sortI (ps.map Pl.s)).length ((sortI (ps.map Pl.s)).map _); rw [hl]; exact (hd.alloc (Nat.le_refl _) _).more (by simp), bl_⟩
    | some p =>
      go_enter Tryz.func19, Tryz.ntmps19
      go_wp2_with fail
      refine (H1.out _ bl_).mono ?_
      (rintro e w1 ⟨rfl, hb1⟩; have hs1 := hb1.size; (try simp at hs1))
      obtain ⟨hc1, hf1⟩ := ifs_of hb1; have hs1 := hb1.size; (try simp at hs1)
      go_wp2_with fail
      refine (HS.out _ bl_).mono ?_
      rintro e w2 ⟨g, cap, v, rfl, hrd, _, hb2⟩
      have hs2 := hb2.size
      (try simp at hs2)
      clear hrd
      obtain ⟨hc2, hf2⟩ := ifs_of hb2; have hs2 := hb2.size; (try simp at hs2)
      go_wp2_with fail
      go_ret2
      exact ⟨none, 0, rfl, Reads.nil_, bl_⟩
def swNm (y : Yd) (i : Int) : ByteArray := ((y.w[i.toNat]?).map Sw.n).getD ⟨#[]⟩
def orderE (y : Yd) (gk gs : ByteArray) : Int := or0 (goalE y gk gs) (whenE (!(searchL y (holdsF y gk gs)).2.isSome) 18)
def orderL (y : Yd) (gk gs : ByteArray) : List ByteArray := match (searchL y (holdsF y gk gs)).2 with
  | some p => p.m.map (swNm y)
  | none => []
theorem run_in {y : Yd} : ∀ (ms : List Int) (s : Int) {t : Int}, runS y s ms = some t → ∀ i ∈ ms, 0 ≤ i ∧ i < y.w.length
  | [], _, _, _ => by simp
  | i :: r, s, t, h => by
    simp only [runS] at h
    split at h
    · rename_i hc
      simp only [Bool.and_eq_true, decide_eq_true_eq] at hc
      intro j hj
      rcases List.mem_cons.1 hj with rfl | hj
      · exact hc.1
      · exact run_in r _ h j hj
    · cases h
theorem orderc_any (g : Nat) (B : Nat) (A0 A1 A2 : Option Addr) (n0 n1 n2 c0 c1 c2 : Nat) (y : Yd) (w : World) (hY : YdAt w B A0 A1 A2 n0 n1 n2 y) (hB : B ≤ w.heap.size) (h9 : n1 ≤ 1000) (i : Int) (hi : 0 ≤ i ∧ i < y.w.length) (hb : Blk w g 41 #[.slice A0 n0 c0, .slice A1 n1 c1, .slice A2 n2 c2]) :
    Calls Tryz.prog 128 #[.int .i64 i, .pointer (some ⟨g, 0, none⟩)] w fun e w' => e = .returned (.string (swNm y i)) ∧ Below w.heap.size w w' := by
  obtain ⟨k, rfl⟩ := Int.eq_ofNat_of_zero_le hi.1
  have hk : k < y.w.length := by omega
  obtain ⟨hl1, ha1⟩ := sw_at hY.hw
  obtain ⟨b, o, rfl, hbb, z0, zr⟩ := ha1 k hk
  clear zr
  have hn : swNm y (k : Int) = y.w[k].n := by simp [swNm, hk]
  rw [hn]
  have hc := hb.cell
  have hkn : (k : Int) < (n1 : Int) := by omega
  generalize y.w[k].n = nm at *
  clear ha1 hY hl1 hi hk hn
  go_enter Tryz.func128, Tryz.ntmps128
  go_wp2
  go_ret
  exact ⟨rfl, bl_⟩
set_option maxRecDepth 100000 in
set_option maxHeartbeats 1000000 in
theorem mapIS_any (g : Nat) (bs cap : Array Value) (B : Nat) (A : Option Addr) (n c : Nat) (l : List Int) (f : Int → ByteArray) (w : World) (hr : Reads w B 1 A n (l.map (.int .i64))) (hB : B ≤ w.heap.size) (hn : n ≤ 1000) (eg : Enters Tryz.prog g)
    (hp : ∀ W, Below w.heap.size w W → ∀ x ∈ l, Calls Tryz.prog g (bs ++ #[.int .i64 x] ++ cap) W fun e w' => e = .returned (.string (f x)) ∧ Below W.heap.size W w') :
    Calls Tryz.prog 127 #[.slice A n c, .func (.func g) bs cap] w (WordsRes w (l.map f)) := by
  unfold Enters at eg
  obtain ⟨hl, ha⟩ := int_at hr
  have HL := Lib.hid hl
  have HA := Lib.hid ha
  have HP := Lib.hid hp
  clear hl ha hr hp
  go_enter Tryz.func127, Tryz.ntmps127
  go_wp2_with fail
  go_loopw [5, 10] (fun v i wr => ∃ k : Nat, k ≤ n ∧ i = .int .i64 k ∧ wr.ownsRow w.heap.size 9 1 v k (((l.take k).map f).map .string) ∧ Below w.heap.size w wr) (fun _ i _ => n - (intOf i).toNat)
  case atStart => exact ⟨0, by omega, rfl, World.ownsRow_nil _ _ _ _, bl_⟩
  case round =>
    obtain ⟨k, hk, rfl, hO, hb⟩ := hrel
    have HO := Lib.hid hO
    clear hO
    have hs := hb.size
    by_cases hlt : k < n
    · have hkl : k < l.length := by rw [HL.out]; exact hlt
      obtain ⟨b, o, eA, hbb, z0⟩ := HA.out k hkl
      have kb : ∀ i, wr.cell? ⟨b, i, none⟩ = w.cell? ⟨b, i, none⟩ := fun i => hb.cell (p := ⟨b, i, none⟩) (by simp; omega)
      rw [← kb] at z0
      clear kb
      subst eA
      have Hd : Hid (((l.take (k + 1)).map f).map Value.string = ((l.take k).map f).map Value.string ++ [Value.string (f l[k])]) := by
        show _ = _
        rw [List.take_succ_eq_append_getElem hkl, List.map_append, List.map_append]; rfl
      have HX := Lib.hid (HP.out wr hb l[k] (List.getElem_mem hkl))
      generalize l[k] = x at *
      go_wp2_with fail
      refine HX.out.mono ?_
      (rintro e w1 ⟨rfl, hb1⟩; have hs1 := hb1.size; (try simp at hs1))
      have HO1 := Lib.hid (own_kept HO.out hb1)
      go_wp2_with (at_builtin; refine wpList_app 56 9 1 16 elemStr rfl (.tmp 14) (.tmp 18) rfl w.heap.size _ k _ rfl HO1.out 1 rfl rfl ?h1 (by decide) ?h3 (by omega) (by omega) ?_)
      case h1 => rfl
      case h3 => unfold maxLen; omega
      intro g' cap' w' hown' hb' _ hs'
      go_wp2
      go_roundw
      case rel => exact ⟨k + 1, by omega, by go_num, by rw [Hd.out]; simpa using hown', (hb.trans (hb1.mono hs)).trans hb'⟩
      case measure => simp [intOf]; omega
    · obtain rfl : k = n := by omega
      obtain ⟨A', cap', rfl, hc1, hc2, hrd⟩ := own_form HO.out
      have HC1 := Lib.hid hc1
      have HC2 := Lib.hid hc2
      clear hc1 hc2
      have HD := Lib.hid hrd
      clear hrd
      go_wp2
      go_ret
      have := HD.out
      rw [List.take_of_length_le (by rw [HL.out]; exact Nat.le_refl _)] at this
      exact ⟨A', cap', by rw [List.length_map, HL.out]; rfl, by rw [List.length_map, HL.out]; exact this, by rw [List.length_map, HL.out]; exact HC1.out, HC2.out, hb⟩
set_option maxRecDepth 100000 in
set_option maxHeartbeats 1000000 in
theorem Order_any (B : Nat) (A0 A1 A2 : Option Addr) (n0 n1 n2 c0 c1 c2 : Nat) (y : Yd) (w : World) (hY : YdAt w B A0 A1 A2 n0 n1 n2 y) (hB : B ≤ w.heap.size) (hT : Tabs w) (hF : Fits y) (gk gs : ByteArray) (hgs : gs.size ≤ maxLen) : Calls Tryz.prog 52 #[.agg #[.slice A0 n0 c0, .slice A1 n1 c1, .slice A2 n2 c2], .agg #[.string gk, .string gs]] w (WordsERes w (resW (orderE y gk gs) (orderL y gk gs)) (orderE y gk gs)) := by
  have H1 := Lib.hid (fun W (hW : Below w.heap.size w W) => checkGoal_any B A0 A1 A2 n0 n1 n2 c0 c1 c2 y W (hY.below (hW.mono hB)) (by have := hW.size; omega) (hT.kept hW) hF gk gs hgs)
  cases he : (goalE y gk gs != 0) with
  | true =>
    have HE := Lib.hid (show goalE y gk gs ≠ 0 by simpa using he)
    have HM : Hid (orderE y gk gs = goalE y gk gs) := by show _ = _; unfold orderE; rw [or0_neg HE.out]
    have HR : Hid (resW (goalE y gk gs) (orderL y gk gs) = []) := by show _ = _; rw [resW, if_neg HE.out]
    rw [HM.out, HR.out]
    clear hY hT hF HR HM
    generalize goalE y gk gs = ee at *
    go_enter Tryz.func52, Tryz.ntmps52
    go_wp2_with fail
    refine (H1.out _ bl_).mono ?_
    (rintro e w1 ⟨rfl, hb1⟩; have hs1 := hb1.size; (try simp at hs1))
    obtain ⟨hc1, hf1⟩ := ifs_of hb1; have hs1 := hb1.size; (try simp at hs1)
    go_wp2_with fail
    go_ret2
    exact ⟨none, 0, rfl, Reads.nil_, bl_⟩
  | false =>
    have HE := Lib.hid (show goalE y gk gs = 0 by simpa using he)
    obtain ⟨k1, k2, k3⟩ := goalE_zero HE.out
    have hP := (yard_ok k1).1
    have HS := Lib.hid (fun W (hW : Below w.heap.size w W) => search_any B A0 A1 A2 n0 n1 n2 c0 c1 c2 y W (hY.below (hW.mono hB)) (by have := hW.size; omega) hP 83 #[.agg #[.string gk, .string gs]] #[] (holdsF y gk gs) (enters_of Tryz.func83 (by kernel_rfl) rfl) (holds_pred hP hF.sn gk gs hgs k3 W))
    rw [HE.out] at H1
    have HM : Hid (orderE y gk gs = whenE (!(searchL y (holdsF y gk gs)).2.isSome) 18) := by show _ = _; unfold orderE; rw [or0_pos HE.out]
    have HB : Hid (orderL y gk gs = match (searchL y (holdsF y gk gs)).2 with | some p => p.m.map (swNm y) | none => []) := Lib.hid rfl
    have HC := Lib.hid (fun W (hW : Below w.heap.size w W) i hi (hb : Blk W w.heap.size 41 #[.slice A0 n0 c0, .slice A1 n1 c1, .slice A2 n2 c2]) => orderc_any w.heap.size B A0 A1 A2 n0 n1 n2 c0 c1 c2 y W (hY.below (hW.mono hB)) (by have := hW.size; omega) (by have := hF.w9; have := (sw_at hY.hw).1; omega) i hi hb)
    have HSS := Lib.hid (fun p (h : (searchL y (holdsF y gk gs)).2 = some p) => search_some h)
    have h256 : Hid (2 ^ y.w.length ≤ 256) := Lib.hid (Nat.pow_le_pow_right (n := 2) (by omega) hP.w8)
    rw [HM.out, HB.out]
    clear he HE HM HB hT hF hY hP k1 k2 k3
    generalize searchL y (holdsF y gk gs) = r at *
    obtain ⟨ps, op⟩ := r
    cases op with
    | none =>
      go_enter Tryz.func52, Tryz.ntmps52
      go_wp2_with fail
      refine (H1.out _ bl_).mono ?_
      (rintro e w1 ⟨rfl, hb1⟩; have hs1 := hb1.size; (try simp at hs1))
      obtain ⟨hc1, hf1⟩ := ifs_of hb1; have hs1 := hb1.size; (try simp at hs1)
      go_wp2_with fail
      refine (HS.out _ bl_).mono ?_
      rintro e w2 ⟨g, cap, v, rfl, hrd, _, hb2⟩
      have hs2 := hb2.size
      (try simp at hs2)
      clear hrd
      obtain ⟨hc2, hf2⟩ := ifs_of hb2; have hs2 := hb2.size; (try simp at hs2)
      go_wp2_with fail
      go_ret2
      exact ⟨none, 0, rfl, Reads.nil_, bl_⟩
    | some p =>
      obtain ⟨r1, _, r2, _⟩ := HSS.out p rfl
      have hin := Lib.hid (run_in _ _ r1)
      have hpl : p.m.length ≤ 256 := by have := h256.out; omega
      clear r1 r2 HSS
      go_enter Tryz.func52, Tryz.ntmps52
      go_wp2_with fail
      refine (H1.out _ bl_).mono ?_
      (rintro e w1 ⟨rfl, hb1⟩; have hs1 := hb1.size; (try simp at hs1))
      obtain ⟨hc1, hf1⟩ := ifs_of hb1; have hs1 := hb1.size; (try simp at hs1)
      go_wp2_with fail
      refine (HS.out _ bl_).mono ?_
      rintro e w2 ⟨g, cap, v, rfl, hrd, hpa, hb2⟩
      have hs2 := hb2.size
      (try simp at hs2)
      have hmr := (hpa p rfl).mv
      have HMR := Lib.hid hmr
      have hml : v.m = p.m.length := by have := hmr.1; simpa using this.symm
      clear hrd hpa hmr
      obtain ⟨B0, B1, B2, M, m0, m1, m2, mm, d0, d1, d2, dd⟩ := v
      dsimp only at HMR hml
      have hm256 : mm ≤ 256 := by omega
      clear hml
      obtain ⟨hc2, hf2⟩ := ifs_of hb2; have hs2 := hb2.size; (try simp at hs2)
      have HBx := Lib.hid (show Blk (w2.alloc (.cells #[.slice B0 m0 d0, .slice B1 m1 d1, .slice B2 m2 d2, .slice M mm dd] 129)) w.heap.size 41 #[.slice A0 n0 c0, .slice A1 n1 c1, .slice A2 n2 c2] from bk_)
      have HBb := Lib.hid (bl_ : Below w.heap.size w (w2.alloc (.cells #[.slice B0 m0 d0, .slice B1 m1 d1, .slice B2 m2 d2, .slice M mm dd] 129)))
      go_wp2_with fail
      refine (mapIS_any 128 #[] #[.pointer (some ⟨w.heap.size, 0, none⟩)] w2.heap.size M mm dd p.m (swNm y) _ (HMR.out.alloc (Nat.le_refl _) _) (by simp) (by omega) (enters_of Tryz.func128 (by kernel_rfl) rfl) (fun W hW x hx => by simpa using HC.out W (HBb.out.trans (hW.mono HBb.out.size)) x (hin.out x hx) (HBx.out.kept hW))).mono ?_
      rintro e w3 ⟨A', cap', rfl, hr3, _, _, hb3⟩
      have hs3 := hb3.size
      (try simp at hs3)
      have HR3 := Lib.hid hr3
      clear hr3
      go_wp2_with fail
      go_ret2
      show WordsERes w (p.m.map (swNm y)) 0 _ _
      exact ⟨A', cap', by rw [List.length_map]; rfl, HR3.out, bl_⟩
end Go.Proofs.YtphlojgmfkgeiaaGreatDoor
/- CheckBarrier. -/
namespace Go.Proofs.YtphlojgmfkgeiaaGreatDoor
open Go.RowKit Go.Sort Go.Shelf
set_option linter.unusedSimpArgs false
set_option linter.unusedVariables false
attribute [local go_sem] cell_if frozen_if grow_cell
def leakB (y : Yd) (gk gs : ByteArray) (l : List Int) : Bool := l.any fun n => !closedB y gk gs n l
def barrCE (y : Yd) (gk gs : ByteArray) (l : List Int) : Int := or0 (goalE y gk gs) (or0 (statesE y.w.length l) (whenE (leakB y gk gs l || !hasI l (y0 y)) 19))
theorem barc_any (g1 g2 g3 : Nat) (B : Nat) (A0 A1 A2 : Option Addr) (n0 n1 n2 c0 c1 c2 : Nat) (y : Yd) (w : World) (hY : YdAt w B A0 A1 A2 n0 n1 n2 y) (hB : B ≤ w.heap.size) (hP : Parts y) (hsn : ∀ x ∈ y.s, x.n.size ≤ maxLen) (gk gs : ByteArray) (hgs : gs.size ≤ maxLen) (h0 : 0 ≤ secAtB y gs) (s : Int) (hs0 : 0 ≤ s ∧ s < 2 ^ y.w.length) (A : Option Addr) (n c : Nat) (set : List Int) (hr : Reads w B 1 A n (set.map (.int .i64))) (hn : n ≤ maxLen)
    (h1 : Blk w g1 41 #[.slice A0 n0 c0, .slice A1 n1 c1, .slice A2 n2 c2]) (h2 : Blk w g2 43 #[.string gk, .string gs]) (h3 : Blk w g3 29 #[.slice A n c]) :
    Calls Tryz.prog 86 #[.int .i64 s, .pointer (some ⟨g1, 0, none⟩), .pointer (some ⟨g2, 0, none⟩), .pointer (some ⟨g3, 0, none⟩)] w fun e w' => e = .returned (.bool (!closedB y gk gs s set)) ∧ Below w.heap.size w w' := by
  have HC := Lib.hid (closed_any B A0 A1 A2 n0 n1 n2 c0 c1 c2 y w hY hB hP hsn gk gs hgs h0 s hs0.1 hs0.2 A n c set hr hn)
  have c1' := h1.cell
  have c2' := h2.cell
  have c3' := h3.cell
  clear hY hP hsn hgs h0 hs0 hr hn h1 h2 h3
  go_enter Tryz.func86, Tryz.ntmps86
  go_wp2_with fail
  refine HC.out.mono ?_
  (rintro e w1 ⟨rfl, hb1⟩; have hs1 := hb1.size; (try simp at hs1))
  go_wp2_with fail
  go_ret
  exact ⟨rfl, bl_⟩
set_option maxRecDepth 100000 in
set_option maxHeartbeats 2000000 in
theorem CheckBarrier_any (B : Nat) (A0 A1 A2 : Option Addr) (n0 n1 n2 c0 c1 c2 : Nat) (y : Yd) (w : World) (hY : YdAt w B A0 A1 A2 n0 n1 n2 y) (hB : B ≤ w.heap.size) (hT : Tabs w) (hF : Fits y) (gk gs : ByteArray) (hgs : gs.size ≤ maxLen) (A : Option Addr) (n c : Nat) (l : List Int) (hr : Reads w w.heap.size 1 A n (l.map (.int .i64))) (hn : n ≤ maxLen) :
    Calls Tryz.prog 21 #[.agg #[.slice A0 n0 c0, .slice A1 n1 c1, .slice A2 n2 c2], .agg #[.string gk, .string gs], .slice A n c] w fun e w' => e = .returned (.int .i64 (barrCE y gk gs l)) ∧ Below w.heap.size w w' := by
  have hl1 := (sw_at hY.hw).1
  have H1 := Lib.hid (fun W (hW : Below w.heap.size w W) => checkGoal_any B A0 A1 A2 n0 n1 n2 c0 c1 c2 y W (hY.below (hW.mono hB)) (by have := hW.size; omega) (hT.kept hW) hF gk gs hgs)
  have HL1 := Lib.hid hl1
  have hln : l.length = n := by simpa using hr.1
  unfold barrCE
  cases he : (goalE y gk gs != 0) with
  | true =>
    have HE := Lib.hid (show goalE y gk gs ≠ 0 by simpa using he)
    have HM : Hid (or0 (goalE y gk gs) (or0 (statesE y.w.length l) (whenE (leakB y gk gs l || !hasI l (y0 y)) 19)) = goalE y gk gs) := by show _ = _; rw [or0_neg HE.out]
    rw [HM.out]
    clear hY hT hF HM hr hn hl1
    generalize goalE y gk gs = ee at *
    go_enter Tryz.func21, Tryz.ntmps21
    go_wp2_with fail
    refine (H1.out _ bl_).mono ?_
    (rintro e w1 ⟨rfl, hb1⟩; have hs1 := hb1.size; (try simp at hs1))
    obtain ⟨hc1, hf1⟩ := ifs_of hb1; have hs1 := hb1.size; (try simp at hs1)
    go_wp2_with fail
    go_ret
    exact ⟨rfl, bl_⟩
  | false =>
    have HE := Lib.hid (show goalE y gk gs = 0 by simpa using he)
    obtain ⟨k1, k2, k3⟩ := goalE_zero HE.out
    have hP := (yard_ok k1).1
    have H2 := Lib.hid (fun W (hW : Below w.heap.size w W) => checkStates_any w.heap.size A0 A1 A2 n0 n1 n2 c0 c1 c2 A n c l W (hr.below hW) hW.size (by have := hF.w9; omega) hn)
    rw [← hl1] at H2
    rw [HE.out] at H1
    rw [HE.out, or0_pos rfl]
    have h9 := hF.w9
    cases hs : (statesE y.w.length l != 0) with
    | true =>
      have HE2 := Lib.hid (show statesE y.w.length l ≠ 0 by simpa using hs)
      have HM : Hid (or0 (statesE y.w.length l) (whenE (leakB y gk gs l || !hasI l (y0 y)) 19) = statesE y.w.length l) := by show _ = _; rw [or0_neg HE2.out]
      rw [HM.out]
      rw [hl1] at H2 hs HE2
      clear hY hT hF HM hr hn HE he k1 k2 k3 hP h9
      rw [hl1]
      generalize statesE n1 l = ee at *
      clear hl1
      go_enter Tryz.func21, Tryz.ntmps21
      go_wp2_with fail
      refine (H1.out _ bl_).mono ?_
      (rintro e w1 ⟨rfl, hb1⟩; have hs1 := hb1.size; (try simp at hs1))
      obtain ⟨hc1, hf1⟩ := ifs_of hb1; have hs1 := hb1.size; (try simp at hs1)
      go_wp2_with fail
      refine (H2.out _ bl_).mono ?_
      (rintro e w2 ⟨rfl, hb2⟩; have hs2 := hb2.size; (try simp at hs2))
      obtain ⟨hc2, hf2⟩ := ifs_of hb2; have hs2 := hb2.size; (try simp at hs2)
      go_wp2_with fail
      go_ret
      exact ⟨rfl, bl_⟩
    | false =>
      have HE2 := Lib.hid (show statesE y.w.length l = 0 by simpa using hs)
      obtain ⟨j1, j2⟩ := statesE_zero HE2.out
      rw [HE2.out, or0_pos rfl]
      rw [HE2.out, hl1] at H2
      have h256 : n ≤ 256 := by omega
      have HC := Lib.hid (fun W (hW : Below w.heap.size w W) (h1 : Blk W w.heap.size 41 #[.slice A0 n0 c0, .slice A1 n1 c1, .slice A2 n2 c2]) (h2 : Blk W (w.heap.size + 1) 43 #[.string gk, .string gs]) (h3 : Blk W (w.heap.size + 1 + 1) 29 #[.slice A n c]) =>
        ContainsFuncI_any 86 #[.pointer (some ⟨w.heap.size, 0, none⟩), .pointer (some ⟨w.heap.size + 1, 0, none⟩), .pointer (some ⟨w.heap.size + 1 + 1, 0, none⟩)] w.heap.size A n c l (fun s => !closedB y gk gs s l) W (hr.below hW) hW.size (by omega) (enters_of Tryz.func86 (by kernel_rfl) rfl)
          (fun W' hW' x hx => by simpa using barc_any w.heap.size (w.heap.size + 1) (w.heap.size + 1 + 1) w.heap.size A0 A1 A2 n0 n1 n2 c0 c1 c2 y W' ((hY.below ((hW.trans (hW'.mono hW.size)).mono hB)).more hB) (Nat.le_trans hW.size hW'.size) hP hF.sn gk gs hgs k3 x (j2 x hx) A n c l (hr.below (hW.trans (hW'.mono hW.size))) hn (h1.kept hW') (h2.kept hW') (h3.kept hW')))
      have HST := Lib.hid (fun W (hW : Below w.heap.size w W) => pstate_any B A0 A1 A2 n0 n1 n2 c0 c1 c2 y W (hY.below (hW.mono hB)) (by have := hW.size; omega) (by omega))
      rw [show stUp y.w n1 = y0 y by rw [← hl1]; rfl] at HST
      have HCt := Lib.hid (fun W (hW : Below w.heap.size w W) => ContainsI_any w.heap.size A n c l (y0 y) W (hr.below hW) hn)
      change Hid (∀ W (hW : Below w.heap.size w W) h1 h2 h3, Calls _ _ _ W fun e w' => e = .returned (.bool (leakB y gk gs l)) ∧ _) at HC
      have HWh := Lib.hid (fun W => pwhen_any (leakB y gk gs l || !hasI l (y0 y)) 19 W)
      clear hY hT hF hr hn HE he k1 k2 k3 hP h9 hl1 hln HE2 hs j1 j2
      generalize leakB y gk gs l = lk at *
      generalize hasI l (y0 y) = hq at *
      generalize y0 y = s0 at *
      generalize hv : whenE (lk || !hq) 19 = v at *
      clear hv
      cases lk <;> cases hq
      all_goals
        go_enter Tryz.func21, Tryz.ntmps21
        go_wp2_with fail
        refine (H1.out _ bl_).mono ?_
        (rintro e w1 ⟨rfl, hb1⟩; have hs1 := hb1.size; (try simp at hs1))
        obtain ⟨hc1, hf1⟩ := ifs_of hb1; have hs1 := hb1.size; (try simp at hs1)
        go_wp2_with fail
        refine (H2.out _ bl_).mono ?_
        (rintro e w2 ⟨rfl, hb2⟩; have hs2 := hb2.size; (try simp at hs2))
        obtain ⟨hc2, hf2⟩ := ifs_of hb2; have hs2 := hb2.size; (try simp at hs2)
        go_wp2_with fail
        refine (HC.out _ bl_ bk_ bk_ bk_).mono ?_
        (rintro e w3 ⟨rfl, hb3⟩; have hs3 := hb3.size; (try simp at hs3))
        obtain ⟨hc3, hf3⟩ := ifs_of hb3; have hs3 := hb3.size; (try simp at hs3)
        go_wp2_with fail
        (refine wp_region_calm [] [0, 1, 2, 3, 4, 5, 6, 7, 8] 1 (by kernel_rfl) rfl (by kernel_rfl) (by kernel_rfl) (by kernel_rfl) ?_; simp only [pickB, List.filterMap_cons, List.filterMap_nil, List.getElem?_toArray, List.getElem?_cons_zero, List.getElem?_cons_succ]; (repeat (first | ((first | (with_reducible refine quietL_plain rfl (fun K hK => ?_)) | (with_reducible refine quietL_want (by with_unfolding_all rfl) (fun K hK => ?_))); (apply Exists.intro; refine ⟨fun wx hx => ?_, ?_⟩; (· (have hcx := ifs_ex hx); simp [go_sem, *, ↓IntWalk.iteOmega] <;> (first | rfl | exact ⟨rfl, rfl⟩ | (have hbx := Ex.below hx; first | (with_reducible exact calls_B (calls_below (HWh.out _))) | exact calls_B (HST.out _ bl_) | exact calls_B (calls_below (HCt.out _ bl_)) | exact calls_B (calls_below (HWh.out _))))); (simp only [Act.put, List.setIfInBounds_toArray, List.set_cons_zero, List.set_cons_succ]; refine hK _ ?_; clear hK K))) | ((with_reducible refine quietL_skip (by with_unfolding_all rfl) ?_); simp only [Act.put, List.setIfInBounds_toArray, List.set_cons_zero, List.set_cons_succ]))); refine quietL_nil ?_)
        (refine anyB_one (i := 9) (by kernel_rfl) rfl rfl ?_; intro w4 hb4 K hK; obtain ⟨hc4, hf4⟩ := ifs_of hb4; have hs4 := hb4.size; (try simp at hs4); go_wp2; refine ⟨xs_, ?_⟩)
        (refine anyB_end (by kernel_rfl) ?_; intro w5 hb5; obtain ⟨hc5, hf5⟩ := ifs_of hb5; have hs5 := hb5.size; (try simp at hs5); simp only [Calm]; go_wp2_with fail)
        go_ret
        exact ⟨rfl, bl_⟩
end Go.Proofs.YtphlojgmfkgeiaaGreatDoor
