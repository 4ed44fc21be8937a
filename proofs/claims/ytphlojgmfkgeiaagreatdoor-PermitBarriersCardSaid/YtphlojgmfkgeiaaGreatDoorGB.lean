/- Reference: the states that are reached, and a barrier. -/
import Derived.Test.YtphlojgmfkgeiaaGreatDoorGR
import Derived.Test.YtphlojgmfkgeiaaGreatDoorWS
import Derived.Test.YtphlojgmfkgeiaaGreatDoorRP
namespace Go.Proofs.YtphlojgmfkgeiaaGreatDoor
open Go.RowKit Go.Sort Go.Shelf
set_option linter.unusedSimpArgs false
set_option linter.unusedVariables false
attribute [local go_sem] cell_if frozen_if grow_cell
theorem those_reach (y : Yd) : those (2 ^ y.w.length) (hasI (reachB y)) = reachL y := by
  unfold those reachL
  refine sorted_ext ((rng_sorted _).filter _) (sortI_sorted (reachB_ok y).nd) fun z => ?_
  rw [List.mem_filter, mem_sortI, hasI_iff]
  exact ⟨fun h => h.2, fun h => ⟨(reachB_ok y).un z h, h⟩⟩
set_option maxRecDepth 100000 in
set_option maxHeartbeats 2000000 in
theorem rReached_any (B : Nat) (A0 A1 A2 : Option Addr) (n0 n1 n2 c0 c1 c2 : Nat) (y : Yd) (w : World) (hY : YdAt w B A0 A1 A2 n0 n1 n2 y) (hB : B ≤ w.heap.size) (hP : Parts y) : Calls Tryz.prog 46 #[.agg #[.slice A0 n0 c0, .slice A1 n1 c1, .slice A2 n2 c2]] w (IntsRow w (reachL y)) := by
  have hl1 := (sw_at hY.hw).1
  have h8' := hP.w8
  have hp9 := pow9 (k := n1) (by omega)
  obtain ⟨N, hN⟩ : ∃ N : Nat, N = 2 ^ n1 := ⟨_, rfl⟩
  have hI : (2 : Int) ^ n1 = (N : Int) := by rw [hN]; simp
  have hN5 : N ≤ 512 := by have := hp9.2; omega
  have HG := Lib.hid (fun W (hW : Below w.heap.size w W) => Graph_any B A0 A1 A2 n0 n1 n2 c0 c1 c2 y W (hY.below (hW.mono hB)) (by have := hW.size; omega) hP)
  rw [← hN] at HG
  have HTr := Lib.hid (those_reach y)
  rw [hl1, ← hN] at HTr
  clear hY hP hl1 hp9 hI hN h8'
  go_enter Tryz.func46, Tryz.ntmps46
  go_wp2_with fail
  refine (HG.out _ bl_).mono ?_
  rintro e w1 ⟨A, cap, vs, rfl, hgr, hb1⟩
  have hs1 := hb1.size
  simp at hs1
  have HGr := Lib.hid hgr
  have HB1 := Lib.hid (bl_ : Below w.heap.size w w1)
  clear hgr hb1
  go_wp2_with fail
  go_loopw [3, 5] (fun v i wr => ∃ k : Nat, k ≤ N ∧ i = .int .i64 k ∧ wr.ownsRow w1.heap.size 3 1 v (those k (hasI (reachB y))).length ((those k (hasI (reachB y))).map (.int .i64)) ∧ Below w1.heap.size w1 wr) (fun _ i _ => N - (intOf i).toNat)
  case atStart => exact ⟨0, by omega, rfl, World.ownsRow_nil _ _ _ _, Below.refl _ _⟩
  case round =>
    obtain ⟨k, hk, rfl, hO, hb⟩ := hrel
    have hsr := hb.size
    have HO := Lib.hid hO
    clear hO
    by_cases hlt : k < N
    · obtain ⟨b, o, u, eA, hbb, hu, hcell⟩ := HGr.out.rd.at_ hlt
      have hrow := HGr.out.row k u hu
      have kb : wr.cell? ⟨b, o + k, none⟩ = some u := (hb.cell (p := ⟨b, o + k, none⟩) hbb).trans hcell
      have Hs := Lib.hid (those_succ k (hasI (reachB y)))
      have hl := those_len k (hasI (reachB y))
      have hbw : b < wr.heap.size := by omega
      subst eA
      clear hcell hu
      cases hq : hasI (reachB y) (k : Int) with
      | false =>
        obtain rfl := hrow.2 (fun h => by rw [(hasI_iff _ _).2 h] at hq; cases hq)
        rw [hq] at Hs
        clear hrow hq
        generalize those k (hasI (reachB y)) = zs at *
        go_wp2_with fail
        go_roundw
        case rel => exact ⟨k + 1, by omega, by go_num, by rw [Hs.out]; simpa using HO.out, hb⟩
        case measure => simp [intOf]; omega
      | true =>
        obtain ⟨g, c, rfl, _⟩ := hrow.1 ((hasI_iff _ _).1 hq)
        rw [hq] at Hs
        clear hrow hq
        generalize those k (hasI (reachB y)) = zs at *
        go_wp2_with (at_builtin; refine wpList_app 29 3 1 8 elemInt rfl (.tmp 19) (.tmp 21) rfl w1.heap.size _ zs.length _ rfl HO.out 1 rfl rfl ?h1 (by decide) ?h3 (by omega) (by omega) ?_)
        case h1 => rfl
        case h3 => unfold maxLen; omega
        intro g' cap' w' hown' hb' hk' hs'
        have HB' := Lib.hid (hb.trans hb')
        clear hk' hb'
        go_wp2
        go_roundw
        case rel => exact ⟨k + 1, by omega, by go_num, by rw [Hs.out]; simpa using hown', HB'.out⟩
        case measure => simp [intOf]; omega
    · obtain rfl : N = k := by omega
      have hO := HO.out
      rw [HTr.out] at hO
      obtain ⟨A', cap', rfl, _⟩ := own_form hO
      have HO2 := Lib.hid (row_base hO HB1.out.size)
      clear hO
      go_wp2_with fail
      go_ret
      exact ⟨A', cap', rfl, HO2.out, HB1.out.trans (hb.mono HB1.out.size)⟩
def barE (y : Yd) (gk gs : ByteArray) : Int := whenE ((reachL y).any (holdsF y gk gs)) 24
set_option maxRecDepth 100000 in
set_option maxHeartbeats 2000000 in
theorem rBarrier_any (B : Nat) (A0 A1 A2 : Option Addr) (n0 n1 n2 c0 c1 c2 : Nat) (y : Yd) (w : World) (hY : YdAt w B A0 A1 A2 n0 n1 n2 y) (hB : B ≤ w.heap.size) (hP : Parts y) (gk gs : ByteArray) (hk : goalB gk = true) (h0 : 0 ≤ secAtB y gs) : Calls Tryz.prog 24 #[.agg #[.slice A0 n0 c0, .slice A1 n1 c1, .slice A2 n2 c2], .agg #[.string gk, .string gs]] w (IntsERes w (resI (barE y gk gs) (reachL y)) (barE y gk gs)) := by
  have hl0 := (sec_at hY.hs).1
  have hl1 := (sw_at hY.hw).1
  have hl2 := (pm_at hY.hp).1
  have h8 := hP.n8
  have h8' := hP.w8
  have h8'' := hP.p8
  have hp9 := pow9 (k := n1) (by omega)
  have hlen := reachL_len y
  rw [hl1] at hlen
  have hlen2 : 2 ^ n1 ≤ 512 := by have h1 := hp9.2; have h2 : ((2 ^ n1 : Nat) : Int) = 2 ^ n1 := by simp
                                  omega
  have hl9 : (reachL y).length ≤ 512 := by omega
  have HR := Lib.hid (fun W (hW : Below w.heap.size w W) => (rReached_any B A0 A1 A2 n0 n1 n2 c0 c1 c2 y W (hY.below (hW.mono hB)) (by have := hW.size; omega) hP).mono fun _ _ h => h.res)
  have HWi := Lib.hid (fun W (hW : Below w.heap.size w W) s (hs : 0 ≤ s ∧ s < 512) => (rWith_any B A0 A1 A2 n0 n1 n2 c0 c1 c2 y s W (hY.below (hW.mono hB)) (by have := hW.size; omega) (by omega) (by omega) (by omega) hs.1 (by omega)).mono fun _ _ h => h.lens (m0 := y.s.length) (m1 := y.w.length) (m2 := y.p.length) rfl (at_lenR y s) rfl)
  have HHo := Lib.hid (fun W D0 D1 D2 d0 d1 d2 s (hz : YdAt W W.heap.size D0 D1 D2 y.s.length y.w.length y.p.length (y.at s)) => rHolds_any W.heap.size D0 D1 D2 _ _ _ d0 d1 d2 (y.at s) W hz (Nat.le_refl _) (hP.at s) gk gs hk h0)
  have HIn := Lib.hid (fun s (hs : s ∈ reachL y) => (show 0 ≤ s ∧ s < 512 from by
    have h1 := reach_rng (mem_reachL.1 hs)
    rw [hl1] at h1
    exact ⟨h1.1, by have := hp9.2; omega⟩))
  unfold barE
  generalize reachL y = l at *
  clear hY hP hl0 hl1 hl2 h8 h8' h8'' hp9 hlen hlen2
  go_enter Tryz.func24, Tryz.ntmps24
  go_wp2_with fail
  refine (HR.out _ bl_).mono ?_
  rintro e w1 ⟨A, cap, rfl, hrd, hb1⟩
  have hs1 := hb1.size
  simp at hs1
  have HRd := Lib.hid hrd
  have HB1 := Lib.hid (bl_ : Below w.heap.size w w1)
  have BY1 := Lib.hid (bk_ : Blk w1 w.heap.size 26 #[.slice A0 n0 c0, .slice A1 n1 c1, .slice A2 n2 c2])
  have BG1 := Lib.hid (bk_ : Blk w1 (w.heap.size + 1) 28 #[.string gk, .string gs])
  clear hrd hb1
  go_wp2_with fail
  go_loopw [7] (fun i wr => ∃ k : Nat, k ≤ l.length ∧ i = .int .i64 k ∧ Hid ((l.take k).any (holdsF y gk gs) = false) ∧ Below w1.heap.size w1 wr) (fun i _ => l.length - (intOf i).toNat)
  case atStart => exact ⟨0, by omega, rfl, Lib.hid rfl, Below.refl _ _⟩
  case round =>
    obtain ⟨k, hk, rfl, hq, hb⟩ := hrel
    have hsr := hb.size
    have bY := BY1.out.kept hb
    have bG := BG1.out.kept hb
    have cY := bY.cell
    have lY := bY.lt
    have cG := bG.cell
    have lG := bG.lt
    have hbw0 := HB1.out.trans (hb.mono HB1.out.size)
    clear bY bG
    by_cases hlt : k < l.length
    · obtain ⟨b, o, u, eA, hbb, hu, hcell⟩ := HRd.out.at_ hlt
      obtain rfl : u = .int .i64 l[k] := by
        rw [List.getElem?_map, List.getElem?_eq_getElem hlt] at hu
        exact (Option.some.inj hu).symm
      have z0 : wr.cell? ⟨b, o + k, none⟩ = some (.int .i64 l[k]) := (hb.cell (p := ⟨b, o + k, none⟩) hbb).trans hcell
      have hbw : b < wr.heap.size := by omega
      subst eA
      have HT := Lib.hid (any_take (holdsF y gk gs) l k hlt)
      have HN := Lib.hid (any_yes (p := holdsF y gk gs) hlt)
      have hsr2 := HIn.out _ (List.getElem_mem hlt)
      clear hcell hu
      generalize l[k] = s at *
      have HWs := Lib.hid (fun W hW => HWi.out W hW s hsr2)
      have HHs := Lib.hid (fun W D0 D1 D2 d0 d1 d2 hz => HHo.out W D0 D1 D2 d0 d1 d2 s hz)
      rw [show holdsB gk gs (y.at s) = holdsF y gk gs s from rfl] at HHs
      cases hh : holdsF y gk gs s with
      | true =>
        rw [hh] at HHs
        have HV : Hid (l.any (holdsF y gk gs) = true) := Lib.hid (HN.out hh)
        go_wp2_with fail
        (refine wp_region_calm [] [0, 1, 2, 3, 4, 6] 2 (by kernel_rfl) rfl (by kernel_rfl) (by kernel_rfl) (by kernel_rfl) ?_; simp only [pickB, List.filterMap_cons, List.filterMap_nil, List.getElem?_toArray, List.getElem?_cons_zero, List.getElem?_cons_succ]; (repeat (first | ((with_reducible refine quietL_plain rfl (fun K hK => ?_)); (apply Exists.intro; refine ⟨fun wx hx => ?_, ?_⟩; (· (have hcx := ifs_ex hx); simp [go_sem, *, ↓IntWalk.iteOmega] <;> (first | rfl | exact ⟨rfl, rfl⟩ | fail)); (simp only [Act.put, List.setIfInBounds_toArray, List.set_cons_zero, List.set_cons_succ]; refine hK _ ?_; clear hK K))) | ((with_reducible refine quietL_skip (by with_unfolding_all rfl) ?_); simp only [Act.put, List.setIfInBounds_toArray, List.set_cons_zero, List.set_cons_succ]) | ((with_reducible refine quietL_want (by with_unfolding_all rfl) (fun K hK => ?_)); (apply Exists.intro; refine ⟨fun wx hx => ?_, ?_⟩; (· (have hcx := ifs_ex hx); simp [go_sem, *, ↓IntWalk.iteOmega] <;> (first | rfl | exact ⟨rfl, rfl⟩ | fail)); (simp only [Act.put, List.setIfInBounds_toArray, List.set_cons_zero, List.set_cons_succ]; refine hK _ ?_; clear hK K))))); refine quietL_nil ?_)
        (refine anyB_one (i := 5) (by kernel_rfl) rfl rfl ?_; intro wa hba K hK; obtain ⟨hca, hfa⟩ := ifs_of hba; have hsa := hba.size; (try simp at hsa); go_wp2_with fail)
        refine (HWs.out _ (hbw0.trans (hba.mono hbw0.size))).mono ?_
        rintro e wb ⟨D0, D1, D2, d0, d1, d2, rfl, hO, hbb2⟩
        have hsb := hbb2.size
        have hza := hO.yd
        rw [at_lenR] at hza
        have HZ := Lib.hid (show YdAt wb wb.heap.size D0 D1 D2 y.s.length y.w.length y.p.length (y.at s) from hza)
        clear hO hza
        (go_wp2; refine ⟨xs_, ?_⟩)
        (refine anyB_one (i := 7) (by kernel_rfl) rfl rfl ?_; intro wc hbc K hK; obtain ⟨hcc, hfc⟩ := ifs_of hbc; have hsc := hbc.size; (try simp at hsc); go_wp2_with fail)
        refine (HHs.out _ _ _ _ _ _ _ ((HZ.out.below hbc).more hbc.size)).mono ?_
        (rintro e wd ⟨rfl, hbd⟩; have hsd := hbd.size; (try simp at hsd))
        (go_wp2; refine ⟨xs_, ?_⟩)
        (refine anyB_end (by kernel_rfl) ?_; intro we hbe; obtain ⟨hce, hfe⟩ := ifs_of hbe; have hse := hbe.size; (try simp at hse); simp only [Calm]; go_wp2_with fail)
        go_ret2
        exact ⟨none, 0, by rw [HV.out]; rfl, by rw [HV.out]; exact Reads.nil_, by have hz := HB1.out; exact bl_⟩
      | false =>
        rw [hh] at HHs
        have HF : Hid ((l.take (k + 1)).any (holdsF y gk gs) = false) := by show _ = _; rw [HT.out, hq.out, hh]; rfl
        go_wp2_with fail
        (refine wp_region_calm [] [0, 1, 2, 3, 4, 6] 2 (by kernel_rfl) rfl (by kernel_rfl) (by kernel_rfl) (by kernel_rfl) ?_; simp only [pickB, List.filterMap_cons, List.filterMap_nil, List.getElem?_toArray, List.getElem?_cons_zero, List.getElem?_cons_succ]; (repeat (first | ((with_reducible refine quietL_plain rfl (fun K hK => ?_)); (apply Exists.intro; refine ⟨fun wx hx => ?_, ?_⟩; (· (have hcx := ifs_ex hx); simp [go_sem, *, ↓IntWalk.iteOmega] <;> (first | rfl | exact ⟨rfl, rfl⟩ | fail)); (simp only [Act.put, List.setIfInBounds_toArray, List.set_cons_zero, List.set_cons_succ]; refine hK _ ?_; clear hK K))) | ((with_reducible refine quietL_skip (by with_unfolding_all rfl) ?_); simp only [Act.put, List.setIfInBounds_toArray, List.set_cons_zero, List.set_cons_succ]) | ((with_reducible refine quietL_want (by with_unfolding_all rfl) (fun K hK => ?_)); (apply Exists.intro; refine ⟨fun wx hx => ?_, ?_⟩; (· (have hcx := ifs_ex hx); simp [go_sem, *, ↓IntWalk.iteOmega] <;> (first | rfl | exact ⟨rfl, rfl⟩ | fail)); (simp only [Act.put, List.setIfInBounds_toArray, List.set_cons_zero, List.set_cons_succ]; refine hK _ ?_; clear hK K))))); refine quietL_nil ?_)
        (refine anyB_one (i := 5) (by kernel_rfl) rfl rfl ?_; intro wa hba K hK; obtain ⟨hca, hfa⟩ := ifs_of hba; have hsa := hba.size; (try simp at hsa); go_wp2_with fail)
        refine (HWs.out _ (hbw0.trans (hba.mono hbw0.size))).mono ?_
        rintro e wb ⟨D0, D1, D2, d0, d1, d2, rfl, hO, hbb2⟩
        have hsb := hbb2.size
        have hza := hO.yd
        rw [at_lenR] at hza
        have HZ := Lib.hid (show YdAt wb wb.heap.size D0 D1 D2 y.s.length y.w.length y.p.length (y.at s) from hza)
        clear hO hza
        (go_wp2; refine ⟨xs_, ?_⟩)
        (refine anyB_one (i := 7) (by kernel_rfl) rfl rfl ?_; intro wc hbc K hK; obtain ⟨hcc, hfc⟩ := ifs_of hbc; have hsc := hbc.size; (try simp at hsc); go_wp2_with fail)
        refine (HHs.out _ _ _ _ _ _ _ ((HZ.out.below hbc).more hbc.size)).mono ?_
        (rintro e wd ⟨rfl, hbd⟩; have hsd := hbd.size; (try simp at hsd))
        (go_wp2; refine ⟨xs_, ?_⟩)
        (refine anyB_end (by kernel_rfl) ?_; intro we hbe; obtain ⟨hce, hfe⟩ := ifs_of hbe; have hse := hbe.size; (try simp at hse); simp only [Calm]; go_wp2_with fail)
        go_roundw
        case rel => exact ⟨k + 1, by omega, by go_num, HF, bl_⟩
        case measure => simp [intOf]; omega
    · obtain rfl : k = l.length := by omega
      have HV : Hid (l.any (holdsF y gk gs) = false) := by
        have := hq.out
        rw [List.take_length] at this
        exact Lib.hid this
      have HR2 := Lib.hid ((HRd.out.below hb).more hb.size)
      go_wp2_with fail
      go_ret2
      exact ⟨A, cap, by rw [HV.out]; rfl, by rw [HV.out]; exact HR2.out, hbw0⟩
end Go.Proofs.YtphlojgmfkgeiaaGreatDoor
