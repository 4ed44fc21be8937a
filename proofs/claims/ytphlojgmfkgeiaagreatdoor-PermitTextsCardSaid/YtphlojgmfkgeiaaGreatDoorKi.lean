/- Joined texts: ZK ZL ZP ZM ZN. -/
import Derived.Test.YtphlojgmfkgeiaaGreatDoorKg
/- Earths that are left. -/
namespace Go.Proofs.YtphlojgmfkgeiaaGreatDoor
open Go.RowKit Go.Sort Go.Shelf
set_option linter.unusedSimpArgs false
set_option linter.unusedVariables false
attribute [local go_sem] cell_if frozen_if grow_cell
theorem leftc_any (x : Pm) (g B : Nat) (A : Option Addr) (n c : Nat) (l : List Int) (w : World) (hb : Blk w g 29 #[.slice A n c]) (hr : Reads w B 1 A n (l.map (.int .i64))) (hB : B ≤ w.heap.size) (hn : n ≤ maxLen) :
    Calls Tryz.prog 101 #[.agg #[.string x.n, .int .i64 x.s], .pointer (some ⟨g, 0, none⟩)] w fun e w' => e = .returned (.bool (hasI l x.s)) ∧ Below w.heap.size w w' := by
  have hc := hb.cell
  have hf := hb.frozen
  have hl := hb.lt
  have HC := Lib.hid (fun W (hW : Below w.heap.size w W) => ContainsI_any B A n c l x.s W (hr.below (hW.mono hB)) hn)
  clear hr
  go_enter Tryz.func101, Tryz.ntmps101
  go_wp2_with fail
  refine (HC.out _ bl_).mono ?_
  rintro e w1 ⟨rfl, rfl⟩
  go_wp2_with fail
  go_ret
  exact ⟨rfl, bl_⟩
/-- The names of the earths that are left. -/
def leftB (y : Yd) (x : Sw) : Bool := x.k.toList == earthL && x.c && !y.p.any (fun p => hasI (y.isl false x.a) p.s)
def leftL (y : Yd) : List ByteArray := (y.w.filter (leftB y)).map Sw.n
end Go.Proofs.YtphlojgmfkgeiaaGreatDoor
/- Earths that are left: the walk. -/
namespace Go.Proofs.YtphlojgmfkgeiaaGreatDoor
open Go.RowKit Go.Sort Go.Shelf
set_option linter.unusedSimpArgs false
set_option linter.unusedVariables false
attribute [local go_sem] cell_if frozen_if grow_cell
def resW (e : Int) (zs : List ByteArray) : List ByteArray := if e = 0 then zs else []
def WordsERes (w : World) (zs : List ByteArray) (er : Int) (e : Ending) (w' : World) : Prop := ∃ A cap, e = .returned (.tuple #[.slice A zs.length cap, .int .i64 er]) ∧ Reads w' w'.heap.size 1 A zs.length (zs.map .string) ∧ Below w.heap.size w w'
def leftTo (y : Yd) (k : Nat) : List ByteArray := ((y.w.take k).filter (leftB y)).map Sw.n
theorem leftTo_succ (y : Yd) (k : Nat) (h : k < y.w.length) : leftTo y (k + 1) = leftTo y k ++ (if leftB y y.w[k] then [y.w[k].n] else []) := by
  unfold leftTo
  rw [List.take_succ_eq_append_getElem h, List.filter_append, List.map_append]
  congr 1
  cases h' : leftB y y.w[k] <;> simp [h']
theorem leftTo_all (y : Yd) : leftTo y y.w.length = leftL y := by simp [leftTo, leftL]
theorem leftTo_len (y : Yd) (k : Nat) : (leftTo y k).length ≤ k := by
  unfold leftTo
  rw [List.length_map]
  exact Nat.le_trans (List.length_filter_le _ _) (by simp; omega)
/-- The rounds: y's box, the row of names. -/
def LeftI (w : World) (A0 A1 A2 : Option Addr) (n0 n1 n2 c0 c1 c2 : Nat) (zs : List ByteArray) (v : Value) (W : World) : Prop :=
  W.ownsRow (w.heap.size + 1) 9 1 v zs.length (zs.map .string) ∧ Blk W w.heap.size 41 #[.slice A0 n0 c0, .slice A1 n1 c1, .slice A2 n2 c2] ∧ Below w.heap.size w W
set_option maxRecDepth 100000 in
set_option maxHeartbeats 1000000 in
theorem Left_any (B : Nat) (A0 A1 A2 : Option Addr) (n0 n1 n2 c0 c1 c2 : Nat) (y : Yd) (w : World) (hY : YdAt w B A0 A1 A2 n0 n1 n2 y) (hB : B ≤ w.heap.size) (hT : Tabs w) (hF : Fits y) : Calls Tryz.prog 32 #[.agg #[.slice A0 n0 c0, .slice A1 n1 c1, .slice A2 n2 c2]] w (WordsERes w (resW (yardE y) (leftL y)) (yardE y)) := by
  have hl1 := (sw_at hY.hw).1
  have H1 := Lib.hid (fun W (hW : Below w.heap.size w W) => CheckYard_any B A0 A1 A2 n0 n1 n2 c0 c1 c2 y W (hY.below (hW.mono hB)) (by have := hW.size; omega) (hT.kept hW) hF)
  cases he : (yardE y != 0) with
  | true =>
    have HE := Lib.hid (show yardE y ≠ 0 by simpa using he)
    have HR : Hid (resW (yardE y) (leftL y) = []) := by show _ = _; rw [resW, if_neg HE.out]
    rw [HR.out]
    clear hY hT hF
    generalize yardE y = ee at *
    go_enter Tryz.func32, Tryz.ntmps32
    go_wp2_with fail
    refine (H1.out _ bl_).mono ?_
    (rintro e w1 ⟨rfl, hb1⟩; have hs1 := hb1.size; (try simp at hs1))
    go_wp2_with fail
    go_ret2
    exact ⟨none, 0, rfl, Reads.nil_, bl_⟩
  | false =>
    have HE := Lib.hid (show yardE y = 0 by simpa using he)
    have HR : Hid (resW (yardE y) (leftL y) = leftL y) := by show _ = _; rw [resW, if_pos HE.out]
    rw [HR.out, HE.out]
    rw [HE.out] at H1
    have hP := (yard_ok HE.out).1
    have h8 := hP.w8
    have hs8 := hP.n8
    have hp8 := hP.p8
    have hl2 := (pm_at hY.hp).1
    have HY := Lib.hid hY
    have HA := Lib.hid (sw_at hY.hw).2
    have HP := Lib.hid hP
    clear he HE HR hT hF hY hP
    go_enter Tryz.func32, Tryz.ntmps32
    go_wp2_with fail
    refine (H1.out _ bl_).mono ?_
    (rintro e w1 ⟨rfl, hb1⟩; have hs1 := hb1.size; (try simp at hs1))
    obtain ⟨hc1, hf1⟩ := ifs_of hb1; have hs1 := hb1.size; (try simp at hs1)
    go_wp2_with fail
    go_loopw [5, 17] (fun v i wr => ∃ k : Nat, k ≤ n1 ∧ i = .int .i64 k ∧ LeftI w A0 A1 A2 n0 n1 n2 c0 c1 c2 (leftTo y k) v wr) (fun _ i _ => n1 - (intOf i).toNat)
    case atStart => exact ⟨0, by omega, rfl, World.ownsRow_nil _ _ _ _, bk_, bl_⟩
    case round =>
      obtain ⟨k, hk, rfl, hO, bY, hb⟩ := hrel
      have hsr := hb.size
      have cY := bY.cell
      have fY := bY.frozen
      have lY := bY.lt
      have HO := Lib.hid hO
      have BY := Lib.hid bY
      clear hO bY
      by_cases hlt : k < n1
      · have hkl : k < y.w.length := by rw [hl1]; exact hlt
        obtain ⟨b, o, eA, hbb, z0, z1, z2, z3, z4⟩ := HA.out k hkl
        have kb : ∀ i, wr.cell? ⟨b, i, none⟩ = w.cell? ⟨b, i, none⟩ := fun i => hb.cell (p := ⟨b, i, none⟩) (by simp; omega)
        rw [← kb] at z0 z1 z2 z3 z4
        clear kb
        subst eA
        have HS := Lib.hid (leftTo_succ y k hkl)
        have hlen := leftTo_len y k
        have hxa := mem_rng.2 (HP.out.sa _ (List.getElem_mem hkl))
        have HI := Lib.hid (fun W (hW : Below w.heap.size w W) => island_any B A0 (some ⟨b, o, none⟩) A2 n0 n1 n2 c0 c1 c2 y y.w[k].a false W (HY.out.below (hW.mono hB)) (by have := hW.size; omega) HP.out.ends hxa (by omega) (by omega))
        have hil : (y.isl false y.w[k].a).length ≤ 8 := Nat.le_trans (isl_len (all := false) HP.out.ends hxa) hs8
        have HB : Hid (leftB y y.w[k] = (y.w[k].k.toList == earthL && y.w[k].c && !y.p.any (fun p => hasI (y.isl false y.w[k].a) p.s))) := rfl
        have hPm := Lib.hid HY.out.hp
        generalize leftTo y k = zs at *
        generalize y.w[k] = x at *
        obtain ⟨xn, xk, xa, xb, xc⟩ := x
        dsimp only at z0 z1 z2 z3 z4 HS HI HB hil
        clear hxa
        unfold earthL at HB
        change Hid (_ = _ ++ _) at HS
        cases h1 : (xk.toList == [101, 97, 114, 116, 104]) with
        | false =>
          have HF : Hid (leftTo y (k + 1) = zs) := by show _ = _; rw [HS.out, HB.out, h1]; simp
          clear HS HB HI
          cases xc
          all_goals
            go_wp2_with fail
            go_roundw
            case rel => exact ⟨k + 1, by omega, by go_num, by rw [HF.out]; exact own_kept HO.out bl_, BY.out.kept bl_, bl_⟩
            case measure => simp [intOf]; omega
        | true =>
          cases xc with
          | false =>
            have HF : Hid (leftTo y (k + 1) = zs) := by show _ = _; rw [HS.out, HB.out, h1]; simp
            clear HS HB HI
            go_wp2_with fail
            go_roundw
            case rel => exact ⟨k + 1, by omega, by go_num, by rw [HF.out]; exact own_kept HO.out bl_, BY.out.kept bl_, bl_⟩
            case measure => simp [intOf]; omega
          | true =>
            go_wp2_with fail
            refine (HI.out _ bl_).mono ?_
            (rintro e wi ⟨Ai, capi, rfl, hri, hbi⟩; have hsi := hbi.size; have HRi := Lib.hid hri; clear hri; (try simp at hsi))
            obtain ⟨hci, hfi⟩ := ifs_of hbi; have hsi := hbi.size; (try simp at hsi)
            have HC := Lib.hid (fun W (hW : Below wi.heap.size wi W) (hW2 : Below w.heap.size w W) (hb8 : Blk W wi.heap.size 29 #[.slice Ai (y.isl false xa).length capi]) => ContainsFuncPm_any 101 #[.pointer (some ⟨wi.heap.size, 0, none⟩)] B A2 n2 c2 y.p (fun p => hasI (y.isl false xa) p.s) W (hPm.out.below (hW2.mono hB)) (by have := hW2.size; omega) (by omega) (enters_of Tryz.func101 (by kernel_rfl) rfl) (fun W' hW' x _ => by simpa using leftc_any x wi.heap.size wi.heap.size Ai _ capi (y.isl false xa) W' (hb8.kept hW') (HRi.out.below (hW.trans (hW'.mono hW.size))) (by have := hW.size; have := hW'.size; omega) (by unfold maxLen; omega)))
            have HOi := Lib.hid (own_kept HO.out (bl_ : Below wr.heap.size wr wi))
            have BYi := Lib.hid (BY.out.kept (bl_ : Below wr.heap.size wr wi))
            generalize y.isl false xa = isl at *
            cases hq : y.p.any (fun p => hasI isl p.s) with
            | true =>
              have HF : Hid (leftTo y (k + 1) = zs) := by show _ = _; rw [HS.out, HB.out, h1, hq]; simp
              rw [hq] at HC
              clear HS HB HI
              go_wp2_with fail
              refine (HC.out _ bl_ bl_ bk_).mono ?_
              (rintro e wj ⟨rfl, hbj⟩; have hsj := hbj.size; (try simp at hsj))
              obtain ⟨hcj, hfj⟩ := ifs_of hbj; have hsj := hbj.size; (try simp at hsj)
              go_wp2_with fail
              go_roundw
              case rel => exact ⟨k + 1, by omega, by go_num, by rw [HF.out]; exact own_kept HOi.out bl_, BYi.out.kept bl_, bl_⟩
              case measure => simp [intOf]; omega
            | false =>
              have HF : Hid (leftTo y (k + 1) = zs ++ [xn]) := by show _ = _; rw [HS.out, HB.out, h1, hq]; simp
              rw [hq] at HC
              clear HS HB HI
              go_wp2_with fail
              refine (HC.out _ bl_ bl_ bk_).mono ?_
              (rintro e wj ⟨rfl, hbj⟩; have hsj := hbj.size; (try simp at hsj))
              obtain ⟨hcj, hfj⟩ := ifs_of hbj; have hsj := hbj.size; (try simp at hsj)
              have HBj := Lib.hid (bl_ : Below w.heap.size w wj)
              have HOj := Lib.hid (own_kept HOi.out (bl_ : Below wi.heap.size wi wj))
              have BYj := Lib.hid (BYi.out.kept (bl_ : Below wi.heap.size wi wj))
              go_wp2_with (at_builtin; refine wpList_app 56 9 1 16 elemStr rfl (.tmp 38) (.tmp 41) rfl (w.heap.size + 1) _ zs.length _ rfl HOj.out 1 rfl rfl ?h1 (by decide) ?h3 (by omega) (by omega) ?_)
              case h1 => rfl
              case h3 => unfold maxLen; omega
              intro g' cap' w' hown' hb' hk' hs'
              go_wp2
              go_roundw
              case rel => exact ⟨k + 1, by omega, by go_num, by rw [HF.out, List.length_append, List.map_append]; exact hown', hk' _ _ _ BYj.out (fun e => by have := (HOj.out.lt _ e).1; omega), HBj.out.trans (hb'.mono (by omega))⟩
              case measure => simp [intOf]; omega
      · obtain rfl : k = n1 := by omega
        obtain ⟨A', cap', rfl, _, _, hrd⟩ := own_form HO.out
        have HD := Lib.hid hrd
        go_wp2_with fail
        go_ret2
        have hz : leftTo y k = leftL y := by rw [← hl1, leftTo_all]
        rw [← hz]
        exact ⟨A', cap', rfl, HD.out, hb⟩
end Go.Proofs.YtphlojgmfkgeiaaGreatDoor
/- The error of states. -/
namespace Go.Proofs.YtphlojgmfkgeiaaGreatDoor
open Go.RowKit Go.Sort Go.Shelf
set_option linter.unusedSimpArgs false
set_option linter.unusedVariables false
attribute [local go_sem] cell_if frozen_if grow_cell
def stsE (n : Nat) : Int → List Int → Int
  | _, [] => 0
  | last, s :: r => if firstE [stE n s, whenE (decide (s ≤ last)) 11] = 0 then stsE n s r else firstE [stE n s, whenE (decide (s ≤ last)) 11]
/-- The error of states: too many; one out of range; not ascending. -/
def statesE (n : Nat) (l : List Int) : Int := if 256 < l.length then 5 else stsE n (-1) l
theorem first2_zero {a b : Int} (h : firstE [a, b] = 0) : a = 0 ∧ b = 0 := by
  rw [firstE_cons, firstE_cons, firstE_nil] at h
  obtain ⟨h1, h2⟩ := or0_zero h
  exact ⟨h1, (or0_zero h2).1⟩
theorem stsE_zero {n : Nat} : ∀ {l : List Int} {last : Int}, stsE n last l = 0 → ∀ s ∈ l, 0 ≤ s ∧ s < 2 ^ n
  | [], _, _ => by simp
  | s :: r, last, h => by
    unfold stsE at h
    split at h
    · rename_i h'
      intro z hz
      rcases List.mem_cons.1 hz with rfl | hz
      · exact stE_zero (first2_zero h').1
      · exact stsE_zero h z hz
    · rename_i h'; exact absurd h h'
theorem statesE_zero {n : Nat} {l : List Int} (h : statesE n l = 0) : l.length ≤ 256 ∧ ∀ s ∈ l, 0 ≤ s ∧ s < 2 ^ n := by
  unfold statesE at h
  split at h
  · cases h
  · exact ⟨by omega, stsE_zero h⟩
set_option maxRecDepth 100000 in
set_option maxHeartbeats 2000000 in
theorem checkStates_any (B : Nat) (A0 A1 A2 : Option Addr) (n0 n1 n2 c0 c1 c2 : Nat) (A : Option Addr) (n c : Nat) (l : List Int) (w : World) (hr : Reads w B 1 A n (l.map (.int .i64))) (hB : B ≤ w.heap.size) (h9 : n1 ≤ 9) (hn : n ≤ maxLen) :
    Calls Tryz.prog 84 #[.agg #[.slice A0 n0 c0, .slice A1 n1 c1, .slice A2 n2 c2], .slice A n c] w fun e w' => e = .returned (.int .i64 (statesE n1 l)) ∧ Below w.heap.size w w' := by
  obtain ⟨hl, ha⟩ := int_at hr
  have HA := Lib.hid ha
  have HL := Lib.hid hl
  have HC := Lib.hid (fun W s => checkState_any A0 A1 A2 n0 n1 n2 c0 c1 c2 s W h9)
  unfold statesE
  rw [HL.out]
  unfold maxLen at hn
  clear hr ha hl
  by_cases hbig : 256 < n
  · have hb' : (256 : Int) < (n : Int) := by omega
    rw [if_pos hbig]
    clear hbig
    go_enter Tryz.func84, Tryz.ntmps84
    go_wp2_with fail
    go_ret
    exact ⟨rfl, bl_⟩
  · rw [if_neg hbig]
    have hb' : ¬ (256 : Int) < (n : Int) := by omega
    clear hbig
    go_enter Tryz.func84, Tryz.ntmps84
    go_wp2_with fail
    go_loopw [5, 14] (fun v i wr => ∃ (k : Nat) (last : Int), k ≤ n ∧ i = .int .i64 k ∧ v = .int .i64 last ∧ Hid (stsE n1 last (l.drop k) = stsE n1 (-1) l) ∧ Below w.heap.size w wr ∧ Blk wr w.heap.size 41 #[.slice A0 n0 c0, .slice A1 n1 c1, .slice A2 n2 c2]) (fun _ i _ => n - (intOf i).toNat)
    case atStart => exact ⟨0, -1, by omega, rfl, rfl, Lib.hid rfl, bl_, bk_⟩
    case round =>
      obtain ⟨k, last, hk, rfl, rfl, hg, hb, bY⟩ := hrel
      have hsr := hb.size
      have cY := bY.cell
      have lY := bY.lt
      have BY := Lib.hid bY
      clear bY
      by_cases hlt : k < n
      · have hkl : k < l.length := by rw [HL.out]; exact hlt
        obtain ⟨b, o, eA, hbb, z0⟩ := HA.out k hkl
        have kb : ∀ i, wr.cell? ⟨b, i, none⟩ = w.cell? ⟨b, i, none⟩ := fun i => hb.cell (p := ⟨b, i, none⟩) (by simp; omega)
        rw [← kb] at z0
        clear kb
        subst eA
        have HS : Hid (stsE n1 last (l.drop k) = if firstE [stE n1 l[k], whenE (decide (l[k] ≤ last)) 11] = 0 then stsE n1 l[k] (l.drop (k + 1)) else firstE [stE n1 l[k], whenE (decide (l[k] ≤ last)) 11]) := by
          show _ = _
          rw [List.drop_eq_getElem_cons hkl]; rfl
        generalize l[k] = z at *
        have HW := Lib.hid (fun W => pwhen_any (decide (z ≤ last)) 11 W)
        have HCz := Lib.hid (fun W => HC.out W z)
        generalize whenE (decide (z ≤ last)) 11 = a2 at *
        generalize stE n1 z = a1 at *
        generalize hee : firstE [a1, a2] = ee at *
        have HEQ := Lib.hid hee
        clear hee
        cases hz : (ee != 0) with
        | true =>
          have HR : Hid (stsE n1 (-1) l = ee) := by show _ = _; rw [← hg.out, HS.out, if_neg (by simpa using hz)]
          clear HS hg
          go_wp2_with fail
          refine (HCz.out _).mono ?_
          (rintro e w1 ⟨rfl, hb1⟩; have hs1 := hb1.size; (try simp at hs1))
          obtain ⟨hc1, hf1⟩ := ifs_of hb1; have hs1 := hb1.size; (try simp at hs1)
          go_wp2_with fail
          refine (HW.out _).mono ?_
          rintro e w2 ⟨rfl, rfl⟩
          go_wp2_with fail
          refine (pfirst_any (w1.heap.size + 1) _ 2 2 [a1, a2] _ (by simpa using Reads.new (size := 1) w1 #[Value.int .i64 a1, .int .i64 a2] 34 2 rfl) (by unfold maxLen; decide)).mono ?_
          rintro e w3 ⟨rfl, rfl⟩
          rw [HEQ.out]
          go_wp2_with fail
          go_ret
          exact ⟨by rw [HR.out]; rfl, bl_⟩
        | false =>
          obtain rfl : ee = 0 := by simpa using hz
          have HR : Hid (stsE n1 z (l.drop (k + 1)) = stsE n1 (-1) l) := by show _ = _; rw [← hg.out, HS.out, if_pos rfl]
          clear HS hg
          go_wp2_with fail
          refine (HCz.out _).mono ?_
          (rintro e w1 ⟨rfl, hb1⟩; have hs1 := hb1.size; (try simp at hs1))
          obtain ⟨hc1, hf1⟩ := ifs_of hb1; have hs1 := hb1.size; (try simp at hs1)
          go_wp2_with fail
          refine (HW.out _).mono ?_
          rintro e w2 ⟨rfl, rfl⟩
          go_wp2_with fail
          refine (pfirst_any (w1.heap.size + 1) _ 2 2 [a1, a2] _ (by simpa using Reads.new (size := 1) w1 #[Value.int .i64 a1, .int .i64 a2] 34 2 rfl) (by unfold maxLen; decide)).mono ?_
          rintro e w3 ⟨rfl, rfl⟩
          rw [HEQ.out]
          go_wp2_with fail
          go_roundw
          case rel => exact ⟨k + 1, z, by omega, by go_num, rfl, HR, bl_, BY.out.kept bl_⟩
          case measure => simp [intOf]; omega
      · obtain rfl : k = n := by omega
        have HR : Hid (stsE n1 (-1) l = 0) := by
          show _ = _
          rw [← hg.out, List.drop_eq_nil_of_le (by rw [HL.out]; omega)]; rfl
        go_wp2_with fail
        go_ret
        exact ⟨by rw [HR.out]; rfl, bl_⟩
end Go.Proofs.YtphlojgmfkgeiaaGreatDoor
/- A state of a set: sound, the goal does not hold, all moves lead to the set. -/
namespace Go.Proofs.YtphlojgmfkgeiaaGreatDoor
open Go.RowKit Go.Sort Go.Shelf
set_option linter.unusedSimpArgs false
set_option linter.unusedVariables false
attribute [local go_sem] cell_if frozen_if grow_cell
def closedTo (y : Yd) (s : Int) (set : List Int) (k : Nat) : Bool := (List.range k).all fun i => hasI set (nextS y s i) || !freeS y s i
def closedB (y : Yd) (gk gs : ByteArray) (s : Int) (set : List Int) : Bool := soundB (y.at s) && !holdsB gk gs (y.at s) && closedTo y s set y.w.length
theorem closedTo_succ (y : Yd) (s : Int) (set : List Int) (k : Nat) : closedTo y s set (k + 1) = (closedTo y s set k && (hasI set (nextS y s k) || !freeS y s k)) := by
  simp [closedTo, List.range_succ]
theorem closedTo_false {y : Yd} {s : Int} {set : List Int} {k n : Nat} (h : closedTo y s set (k + 1) = false) (hn : k < n) : closedTo y s set n = false := by
  unfold closedTo at h ⊢
  rw [List.all_eq_false] at h ⊢
  obtain ⟨i, hi, e⟩ := h
  exact ⟨i, List.mem_range.2 (by have := List.mem_range.1 hi; omega), e⟩
end Go.Proofs.YtphlojgmfkgeiaaGreatDoor
/- closed: the walk . -/
namespace Go.Proofs.YtphlojgmfkgeiaaGreatDoor
open Go.RowKit Go.Sort Go.Shelf
set_option linter.unusedSimpArgs false
set_option linter.unusedVariables false
attribute [local go_sem] cell_if frozen_if grow_cell
set_option maxRecDepth 100000 in
set_option maxHeartbeats 1000000 in
theorem closed_any (B : Nat) (A0 A1 A2 : Option Addr) (n0 n1 n2 c0 c1 c2 : Nat) (y : Yd) (w : World) (hY : YdAt w B A0 A1 A2 n0 n1 n2 y) (hB : B ≤ w.heap.size) (hP : Parts y) (hsn : ∀ x ∈ y.s, x.n.size ≤ maxLen) (gk gs : ByteArray) (hgs : gs.size ≤ maxLen) (h0 : 0 ≤ secAtB y gs) (s : Int) (hs0 : 0 ≤ s) (hs1 : s < 2 ^ y.w.length) (A : Option Addr) (n c : Nat) (set : List Int) (hr : Reads w B 1 A n (set.map (.int .i64))) (hn : n ≤ maxLen) :
    Calls Tryz.prog 87 #[.agg #[.slice A0 n0 c0, .slice A1 n1 c1, .slice A2 n2 c2], .agg #[.string gk, .string gs], .int .i64 s, .slice A n c] w fun e w' => e = .returned (.bool (closedB y gk gs s set)) ∧ Below w.heap.size w w' := by
  have hl0 := (sec_at hY.hs).1
  have hl1 := (sw_at hY.hw).1
  have hl2 := (pm_at hY.hp).1
  have h8 := hP.n8
  have h8' := hP.w8
  have h8'' := hP.p8
  have hp9 := pow9 (k := y.w.length) (by omega)
  have HW := Lib.hid (fun W (hW : Below w.heap.size w W) => with_any B A0 A1 A2 n0 n1 n2 c0 c1 c2 y s W (hY.below (hW.mono hB)) (by have := hW.size; omega) (by omega) (by omega) (by omega) hs0 (by omega))
  have hPz := hP.at s
  go_enter Tryz.func87, Tryz.ntmps87
  go_wp2_with fail
  refine (HW.out _ bl_).mono ?_
  rintro e w1 ⟨D0, D2, d0, d2, g, rfl, hO, hb1⟩
  have hZ := yd_own hO
  have hsz1 := hb1.size
  (try simp at hsz1)
  have HS := Lib.hid (fun W (hW : Below w1.heap.size w1 W) => sound_any w1.heap.size D0 _ D2 _ _ _ d0 (y.at s).w.length d2 (y.at s) W (hZ.below hW) hW.size hPz)
  have HH := Lib.hid (fun W (hW : Below w1.heap.size w1 W) => holds_any w1.heap.size D0 _ D2 _ _ _ d0 (y.at s).w.length d2 (y.at s) W (hZ.below hW) hW.size hPz hsn gk gs hgs h0)
  have hs9 : (y.at s).w.length = y.w.length := withL_len _ _
  have HM := Lib.hid (fun W (hW : Below w1.heap.size w1 W) i (hi : i < (y.at s).w.length) => moved_any w1.heap.size D0 _ D2 _ _ _ d0 (y.at s).w.length d2 (y.at s) i W (hZ.below hW) hW.size (by show y.s.length ≤ 1000; omega) (by omega) (by show y.p.length ≤ 1000; omega) hi)
  have HY2 := Lib.hid (fun W (hW : Below w1.heap.size w1 W) i (hi : i < (y.at s).w.length) => why_any w1.heap.size D0 _ D2 _ _ _ d0 (y.at s).w.length d2 (y.at s) W (hZ.below hW) hW.size hPz i hi)
  have HS9 := Lib.hid hs9
  clear hs9
  have HR := Lib.hid (fun W (hW : Below w.heap.size w W) => hr.below (hW.mono hB))
  cases hq : soundB (y.at s) with
  | false =>
    rw [hq] at HS
    clear hO hZ
    obtain ⟨hc1, hf1⟩ := ifs_of hb1; have hs1 := hb1.size; (try simp at hs1)
    go_wp2_with fail
    refine (HS.out _ bl_).mono ?_
    (rintro e w2 ⟨rfl, hb2⟩; have hs2 := hb2.size; (try simp at hs2))
    go_wp2_with fail
    go_ret
    exact ⟨by unfold closedB; rw [hq]; rfl, bl_⟩
  | true =>
    rw [hq] at HS
    clear hO hZ
    cases hg : holdsB gk gs (y.at s) with
    | true =>
      rw [hg] at HH
      obtain ⟨hc1, hf1⟩ := ifs_of hb1; have hs1 := hb1.size; (try simp at hs1)
      go_wp2_with fail
      refine (HS.out _ bl_).mono ?_
      (rintro e w2 ⟨rfl, hb2⟩; have hs2 := hb2.size; (try simp at hs2))
      obtain ⟨hc2, hf2⟩ := ifs_of hb2; have hs2 := hb2.size; (try simp at hs2)
      go_wp2_with fail
      refine (HH.out _ bl_).mono ?_
      (rintro e w3 ⟨rfl, hb3⟩; have hs3 := hb3.size; (try simp at hs3))
      go_wp2_with fail
      go_ret
      exact ⟨by unfold closedB; rw [hq, hg]; rfl, bl_⟩
    | false =>
      rw [hg] at HH
      obtain ⟨hc1, hf1⟩ := ifs_of hb1; have hs1 := hb1.size; (try simp at hs1)
      go_wp2_with fail
      refine (HS.out _ bl_).mono ?_
      (rintro e w2 ⟨rfl, hb2⟩; have hs2 := hb2.size; (try simp at hs2))
      obtain ⟨hc2, hf2⟩ := ifs_of hb2; have hs2 := hb2.size; (try simp at hs2)
      go_wp2_with fail
      refine (HH.out _ bl_).mono ?_
      (rintro e w3 ⟨rfl, hb3⟩; have hs3 := hb3.size; (try simp at hs3))
      obtain ⟨hc3, hf3⟩ := ifs_of hb3; have hs3 := hb3.size; (try simp at hs3)
      go_wp2_with fail
      have bA : Blk w3 w1.heap.size 41 #[.slice D0 (y.at s).s.length d0, .slice (some ⟨g, 0, none⟩) (y.at s).w.length (y.at s).w.length, .slice D2 (y.at s).p.length d2] := (show Blk _ _ _ _ from bk_)
      have BA := Lib.hid bA
      clear bA
      go_loopw [25] (fun i wr => ∃ k : Nat, k ≤ y.w.length ∧ i = .int .i64 k ∧ closedTo y s set k = true ∧ Below w3.heap.size w3 wr) (fun i _ => y.w.length - (intOf i).toNat)
      case atStart => exact ⟨0, by omega, rfl, rfl, bl_⟩
      case round =>
        obtain ⟨k, hk, rfl, hq', hb⟩ := hrel
        have hsr := hb.size
        have bA := BA.out.kept hb
        have cA := bA.cell
        have fA := bA.frozen
        have lA := bA.lt
        clear bA
        by_cases hlt : k < y.w.length
        · have HS2 := Lib.hid (closedTo_succ y s set k)
          have hlt' : (k : Int) < ((y.at s).w.length : Int) := by have := HS9.out; omega
          have HQ := Lib.hid hq'
          clear hq'
          go_wp2_with fail
          refine (HM.out _ bl_ k (by omega)).mono ?_
          rintro e w4 ⟨E0, E2, e0, e2, g4, rfl, hO4, hb4⟩
          have hs4 := hb4.size
          have hZ4 := yd_own hO4
          have HP4 := Lib.hid (fun W (hW : Below w4.heap.size w4 W) => pstate_any w4.heap.size E0 _ E2 _ _ _ e0 ((y.at s).mv k).w.length e2 ((y.at s).mv k) W (hZ4.below hW) hW.size (by show (moved (withL y.w s) k).length ≤ 9; rw [moved_len, withL_len]; omega))
          have hN : stUp ((y.at s).mv k).w ((y.at s).mv k).w.length = nextS y s k := by
            show stUp (moved (withL y.w s) k) (moved (withL y.w s) k).length = _
            rw [moved_len, withL_len]; rfl
          rw [hN] at HP4
          clear hO4 hZ4 hN
          have HNx := Lib.hid (nmL_nil (whyN_le (y.at s) k))
          have HCt := Lib.hid (fun W (hW : Below w.heap.size w W) => ContainsI_any B A n c set (nextS y s k) W (HR.out W hW) hn)
          have HW4 := Lib.hid (fun W (hW : Below w1.heap.size w1 W) => HY2.out W hW k (by have := HS9.out; omega))
          unfold freeS at HS2
          generalize nextS y s k = ns at *
          cases hh : hasI set ns with
          | true =>
            rw [hh] at HCt
            have HF : Hid (closedTo y s set (k + 1) = true) := by show _ = _; rw [HS2.out, HQ.out, hh]; rfl
            obtain ⟨hc4, hf4⟩ := ifs_of hb4; have hs4 := hb4.size; (try simp at hs4)
            go_wp2_with fail
            refine (HP4.out _ bl_).mono ?_
            (rintro e w5 ⟨rfl, hb5⟩; have hs5 := hb5.size; (try simp at hs5))
            obtain ⟨hc5, hf5⟩ := ifs_of hb5; have hs5 := hb5.size; (try simp at hs5)
            go_wp2_with fail
            refine (HCt.out _ bl_).mono ?_
            rintro e w6 ⟨rfl, rfl⟩
            go_wp2_with fail
            go_roundw
            case rel => exact ⟨k + 1, by omega, by go_num, HF.out, bl_⟩
            case measure => simp [intOf]; omega
          | false =>
            rw [hh] at HCt
            cases hf : (whyN (y.at s) k == 0) with
            | true =>
              rw [hf] at HNx
              have hnn := HNx.out
              have HF : Hid (closedTo y s set y.w.length = false) := by show _ = _; exact closedTo_false (k := k) (by rw [HS2.out, hh, hf]; simp) hlt
              generalize nmL (whyN (y.at s) k) = v at *
              obtain ⟨hc4, hf4⟩ := ifs_of hb4; have hs4 := hb4.size; (try simp at hs4)
              go_wp2_with fail
              refine (HP4.out _ bl_).mono ?_
              (rintro e w5 ⟨rfl, hb5⟩; have hs5 := hb5.size; (try simp at hs5))
              obtain ⟨hc5, hf5⟩ := ifs_of hb5; have hs5 := hb5.size; (try simp at hs5)
              go_wp2_with fail
              refine (HCt.out _ bl_).mono ?_
              rintro e w6 ⟨rfl, rfl⟩
              go_wp2_with fail
              refine (HW4.out _ bl_).mono ?_
              (rintro e w7 ⟨rfl, hb7⟩; have hs7 := hb7.size; (try simp at hs7))
              go_wp2_with fail
              go_ret
              exact ⟨by unfold closedB; rw [HF.out]; simp, bl_⟩
            | false =>
              rw [hf] at HNx
              have hnn := HNx.out
              have HF : Hid (closedTo y s set (k + 1) = true) := by show _ = _; rw [HS2.out, HQ.out, hh, hf]; rfl
              generalize nmL (whyN (y.at s) k) = v at *
              obtain ⟨hc4, hf4⟩ := ifs_of hb4; have hs4 := hb4.size; (try simp at hs4)
              go_wp2_with fail
              refine (HP4.out _ bl_).mono ?_
              (rintro e w5 ⟨rfl, hb5⟩; have hs5 := hb5.size; (try simp at hs5))
              obtain ⟨hc5, hf5⟩ := ifs_of hb5; have hs5 := hb5.size; (try simp at hs5)
              go_wp2_with fail
              refine (HCt.out _ bl_).mono ?_
              rintro e w6 ⟨rfl, rfl⟩
              go_wp2_with fail
              refine (HW4.out _ bl_).mono ?_
              (rintro e w7 ⟨rfl, hb7⟩; have hs7 := hb7.size; (try simp at hs7))
              go_wp2_with fail
              go_roundw
              case rel => exact ⟨k + 1, by omega, by go_num, HF.out, bl_⟩
              case measure => simp [intOf]; omega
        · obtain rfl : k = y.w.length := by omega
          have hlt' : ¬ (y.w.length : Int) < ((y.at s).w.length : Int) := by have := HS9.out; omega
          go_wp2_with fail
          go_ret
          exact ⟨by unfold closedB; rw [hq, hg, hq']; rfl, bl_⟩
end Go.Proofs.YtphlojgmfkgeiaaGreatDoor
