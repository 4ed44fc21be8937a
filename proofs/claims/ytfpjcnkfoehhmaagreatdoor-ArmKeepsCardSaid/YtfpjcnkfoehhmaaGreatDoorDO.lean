/- The law ArmKeeps. -/
import Derived.Test.YtfpjcnkfoehhmaaGreatDoorUA2
import Derived.Test.YtfpjcnkfoehhmaaGreatDoorRR
import Derived.Test.YtfpjcnkfoehhmaaGreatDoorDC
import Derived.Test.YtfpjcnkfoehhmaaGreatDoorDE
import Derived.Test.YtfpjcnkfoehhmaaGreatDoorDH
import Derived.Test.YtfpjcnkfoehhmaaGreatDoorQl
import Derived.Test.YtfpjcnkfoehhmaaGreatDoorDA
import Derived.Test.YtfpjcnkfoehhmaaGreatDoorQd
import Derived.Deep.DeepCutAuto
import Derived.Deep.CutBlock
namespace Go.Proofs.YtfpjcnkfoehhmaaGreatDoor
open Go Go.RowKit Go.Sort Go.Shelf
set_option linter.unusedSimpArgs false
set_option linter.unusedVariables false
attribute [local go_sem] cell_if frozen_if grow_cell
/-- Between two orders. -/
structure KwI (w wk : World) (nb : Nat) (A : Option Addr) (n c : Nat) (a : Ar) (A' : Option Addr) (c' : Nat) (m : List Md) (W : World) : Prop where
  bA : Blk W w.heap.size 26 #[.slice A n c, .int .i64 a.lo, .int .i64 a.hi, .int .i64 a.cur, .int .i64 a.lim]
  bN : Blk W nb 35 #[.slice A' n c', .int .i64 a.lo, .int .i64 a.hi, .int .i64 a.cur, .int .i64 a.lim]
  r : MsAt W W.heap.size A' n m
  nc : n ≤ c'
  low : Below w.heap.size w W
  lk : Below wk.heap.size wk W
  lt : w.heap.size < nb
  le : wk.heap.size ≤ nb
theorem KwI.kept {w wk : World} {nb : Nat} {A : Option Addr} {n c : Nat} {a : Ar} {A' : Option Addr} {c' : Nat} {m : List Md} {W W' : World} (h : KwI w wk nb A n c a A' c' m W) (hb : Below W.heap.size W W') : KwI w wk nb A n c a A' c' m W' :=
  ⟨h.bA.kept hb, h.bN.kept hb, ms_kept h.r hb, h.nc, h.low.trans (hb.mono h.low.size), h.lk.trans (hb.mono h.lk.size), h.lt, h.le⟩
theorem ms_putA {W : World} {n b : Nat} {A : Option Addr} {m : List Md} {t : TypeId} {A0 : Option Addr} {n0 c0 : Nat} {x1 x2 x3 x4 : Int} {v0 v1 v2 v3 v4 : Value} (h : MsAt W W.heap.size A n m) (hk : Blk W b t #[.slice A0 n0 c0, .int .i64 x1, .int .i64 x2, .int .i64 x3, .int .i64 x4]) :
    MsAt (((((W.setCell ⟨b, 0, none⟩ v0).setCell ⟨b, 1, none⟩ v1).setCell ⟨b, 2, none⟩ v2).setCell ⟨b, 3, none⟩ v3).setCell ⟨b, 4, none⟩ v4) (((((W.setCell ⟨b, 0, none⟩ v0).setCell ⟨b, 1, none⟩ v1).setCell ⟨b, 2, none⟩ v2).setCell ⟨b, 3, none⟩ v3).setCell ⟨b, 4, none⟩ v4).heap.size A n m := by
  have e5 : ∀ (V : World) (p : Addr) (u : Value), (V.setCell p u).heap.size = V.heap.size := fun V p u => by simp [World.setCell]
  have hne := ms_ne h hk (fun i s e => by
    match i, e with
    | 0, e => simp at e
    | 1, e => simp at e
    | 2, e => simp at e
    | 3, e => simp at e
    | 4, e => simp at e
    | i + 5, e => simp at e)
  rw [e5, e5, e5, e5, e5]
  exact ms_set (ms_set (ms_set (ms_set (ms_set h hne 0 v0) hne 1 v1) hne 2 v2) hne 3 v3) hne 4 v4
theorem near_more {a b : Ar} {i : Nat} (h : Near a b ((i : Int) * a.cur)) (hc : 0 ≤ a.cur) : Near a b (((i + 1 : Nat) : Int) * a.cur) := by
  have e : ((i + 1 : Nat) : Int) * a.cur = (i : Int) * a.cur + a.cur := by rw [Int.natCast_succ, Int.add_mul, Int.one_mul]
  rw [e]
  exact ⟨h.s, fun k h1 h2 h3 => by have := h.q k h1 h2 h3; omega⟩
theorem near_step {a b : Ar} {i : Nat} {o : Od} (h : Near a b ((i : Int) * a.cur)) (hr : refE b o = 0) (hc : 0 ≤ a.cur) : Near a (stepA b o) (((i + 1 : Nat) : Int) * a.cur) := by
  have e : ((i + 1 : Nat) : Int) * a.cur = (i : Int) * a.cur + a.cur := by rw [Int.natCast_succ, Int.add_mul, Int.one_mul]
  rw [e]
  exact h.step hr hc
theorem neg_order {o : Od} (h : orderE o = 0) : orderE ⟨o.n, -o.c⟩ = 0 := by
  obtain ⟨h1, h2⟩ := order_zero h
  unfold orderE
  rw [firstE_cons, firstE_cons, firstE_nil, ckR_yes h1, ckR_yes (show -1000 ≤ -o.c ∧ -o.c ≤ 1000 by omega)]
  rfl
theorem res_okK {a : Ar} (hE : armE a = 0) (m : Int) (h : 0 ≤ m ∧ m ≤ 16) : resE a m = whenE (decide (((usL a).length : Int) - m < 0)) 18 := by
  unfold resE
  rw [firstE_cons, firstE_cons, firstE_nil, hE, ckR_yes h]
  rfl
theorem keeps_cho {a : Ar} {o : Od} (hE : armE a = 0) (ho : orderE o = 0) (hc : o.c ≠ 0) : choL (mirA a) ⟨o.n, -o.c⟩ = choL a o := by
  have h2 := neg_order ho
  have e1 : choE (mirA a) ⟨o.n, -o.c⟩ = choE a o := by
    unfold choE
    rw [mir_ref, mir_ok hE, hE, h2, ho]
  unfold choL
  rw [e1]
  by_cases h0 : choE a o = 0
  · rw [if_pos h0, if_pos h0]
    have hr : refE a o = 0 := by
      unfold choE at h0
      exact (or0_zero h0).2
    exact mir_choice (fit_of hE) (order_zero ho).1.1 hr hc
  · rw [if_neg h0, if_neg h0]
theorem keeps_choE {a : Ar} {o : Od} (hE : armE a = 0) (ho : orderE o = 0) : choE (mirA a) ⟨o.n, -o.c⟩ = choE a o := by
  unfold choE
  rw [mir_ref, mir_ok hE, hE, neg_order ho, ho]
theorem choL_le {a : Ar} {o : Od} : (choL a o).length ≤ 16 := by
  unfold choL
  split
  · rename_i h0
    have hr := h0
    unfold choE at hr
    obtain ⟨h1, h2⟩ := or0_zero hr
    rw [firstE_cons, firstE_cons] at h1
    have ho := (or0_zero (or0_zero h1).2).1
    have := choice_len (fit_of (or0_zero h1).1) (order_zero ho).1.1 h2
    have := (order_zero ho).1.2
    omega
  · simp
set_option maxRecDepth 1000000 in
set_option maxHeartbeats 16000000 in
theorem keeps_any (A A2 : Option Addr) (n c n2 c2 : Nat) (a : Ar) (l : List Od) (u : Int) (w : World) (hM : MsAt w w.heap.size A n a.m) (hn : n ≤ maxLen) (hnm : ∀ x ∈ a.m, x.n.size ≤ maxLen) (hO : Reads w w.heap.size 2 A2 n2 (ods l)) (hn2 : n2 ≤ maxLen) (hu : 0 ≤ u ∧ u ≤ 255) (hT : TabT w) :
    Calls Tryz.prog 9 #[.agg #[.slice A n c, .int .i64 a.lo, .int .i64 a.hi, .int .i64 a.cur, .int .i64 a.lim], .slice A2 n2 c2, .int .u8 u] w fun e w' => e = .returned (.bool true) ∧ Below w.heap.size w w' := by
  have hl := (md_at hM).1
  obtain ⟨hl2, hat2⟩ := od_at hO
  have hmx : maxLen = 9223372036854775807 := rfl
  rw [hmx] at hn hn2
  have HT := Lib.hid hT
  have HAw := Lib.hid (fun W (hW : Below w.heap.size w W) => awake_ok w W hT hW)
  have HVa := Lib.hid (fun W (hW : Below w.heap.size w W) => valid_any w.heap.size A n c a W (hM.below hW) hW.size hn hnm)
  have HCo := Lib.hid (fun (h9 : n2 ≤ 8) W (hW : Below w.heap.size w W) => rCheckOrders_any w.heap.size A2 n2 c2 l W (hO.below hW) hW.size (by unfold maxLen; omega))
  clear hmx hT
  cases hv : validA a with
  | false =>
    rw [hv] at HVa
    clear hM hnm hl hv hO hl2 hat2
    go_enter Tryz.func9, Tryz.ntmps9
    go_wp2_with fail
    refine (HAw.out _ bl_).mono ?_
    rintro e w1 ⟨rfl, hb⟩
    have HA : Hid (Blk w1 (w.heap.size) 26 #[.slice A n c, .int .i64 a.lo, .int .i64 a.hi, .int .i64 a.cur, .int .i64 a.lim]) := Lib.hid bk_
    have HL : Hid (Below w.heap.size w w1) := Lib.hid bl_
    have hs1 := HL.out.size
    clear hb
    have cHA := HA.out.cell
    have lHA := HA.out.lt
    go_wp2_with fail
    refine (HVa.out _ HL.out).mono ?_
    rintro e w2 ⟨rfl, hb⟩
    clear cHA lHA
    have hs2 := hb.size
    have HL' := Lib.hid (HL.out.trans (hb.mono HL.out.size)); clear HL; have HL := HL'; clear HL'
    have HA' := Lib.hid (HA.out.kept hb); clear HA; have HA := HA'; clear HA'
    clear hb
    have cHA := HA.out.cell
    have lHA := HA.out.lt
    go_wp2_with fail
    refine (HAw.out _ HL.out).mono ?_
    rintro e w3 ⟨rfl, hb⟩
    clear cHA lHA
    have hs3 := hb.size
    have HL' := Lib.hid (HL.out.trans (hb.mono HL.out.size)); clear HL; have HL := HL'; clear HL'
    have HA' := Lib.hid (HA.out.kept hb); clear HA; have HA := HA'; clear HA'
    clear hb
    have cHA := HA.out.cell
    have lHA := HA.out.lt
    go_wp2_with fail
    go_ret
    exact ⟨rfl, HL.out⟩
  | true =>
    rw [hv] at HVa
    unfold validA at hv
    simp only [Bool.and_eq_true, decide_eq_true_eq, beq_iff_eq] at hv
    obtain ⟨⟨hsh, h8⟩, hE⟩ := hv
    have hF := short_fit hsh hnm
    rw [hl] at h8
    rcases Nat.eq_zero_or_pos n2 with hz | hz
    · have hz1 : ((n2 : Int) == 0) = true := by simp [hz]
      have hz2 : (n2 : Int) = 0 := by omega
      clear hM hnm hO hat2 hF hE hsh hl2
      go_enter Tryz.func9, Tryz.ntmps9
      go_wp2_with fail
      refine (HAw.out _ bl_).mono ?_
      rintro e w1 ⟨rfl, hb⟩
      have HA : Hid (Blk w1 (w.heap.size) 26 #[.slice A n c, .int .i64 a.lo, .int .i64 a.hi, .int .i64 a.cur, .int .i64 a.lim]) := Lib.hid bk_
      have HL : Hid (Below w.heap.size w w1) := Lib.hid bl_
      have hs1 := HL.out.size
      clear hb
      have cHA := HA.out.cell
      have lHA := HA.out.lt
      go_wp2_with fail
      refine (HVa.out _ HL.out).mono ?_
      rintro e w2 ⟨rfl, hb⟩
      clear cHA lHA
      have hs2 := hb.size
      have HL' := Lib.hid (HL.out.trans (hb.mono HL.out.size)); clear HL; have HL := HL'; clear HL'
      have HA' := Lib.hid (HA.out.kept hb); clear HA; have HA := HA'; clear HA'
      clear hb
      have cHA := HA.out.cell
      have lHA := HA.out.lt
      go_wp2_with fail
      refine (HAw.out _ HL.out).mono ?_
      rintro e w3 ⟨rfl, hb⟩
      clear cHA lHA
      have hs3 := hb.size
      have HL' := Lib.hid (HL.out.trans (hb.mono HL.out.size)); clear HL; have HL := HL'; clear HL'
      have HA' := Lib.hid (HA.out.kept hb); clear HA; have HA := HA'; clear HA'
      clear hb
      have cHA := HA.out.cell
      have lHA := HA.out.lt
      go_wp2_with fail
      go_ret
      exact ⟨rfl, HL.out⟩
    have hz1 : ((n2 : Int) == 0) = false := by simp; omega
    have hz2 : ¬ (n2 : Int) = 0 := by omega
    by_cases h28 : n2 ≤ 8
    case neg =>
      have hd : decide ((8 : Int) < (n2 : Int)) = true := by simp; omega
      have hd2 : (8 : Int) < (n2 : Int) := by omega
      clear hM hnm hO hat2 hF hE hsh hl2
      go_enter Tryz.func9, Tryz.ntmps9
      go_wp2_with fail
      refine (HAw.out _ bl_).mono ?_
      rintro e w1 ⟨rfl, hb⟩
      have HA : Hid (Blk w1 (w.heap.size) 26 #[.slice A n c, .int .i64 a.lo, .int .i64 a.hi, .int .i64 a.cur, .int .i64 a.lim]) := Lib.hid bk_
      have HL : Hid (Below w.heap.size w w1) := Lib.hid bl_
      have hs1 := HL.out.size
      clear hb
      have cHA := HA.out.cell
      have lHA := HA.out.lt
      go_wp2_with fail
      refine (HVa.out _ HL.out).mono ?_
      rintro e w2 ⟨rfl, hb⟩
      clear cHA lHA
      have hs2 := hb.size
      have HL' := Lib.hid (HL.out.trans (hb.mono HL.out.size)); clear HL; have HL := HL'; clear HL'
      have HA' := Lib.hid (HA.out.kept hb); clear HA; have HA := HA'; clear HA'
      clear hb
      have cHA := HA.out.cell
      have lHA := HA.out.lt
      go_wp2_with fail
      refine (HAw.out _ HL.out).mono ?_
      rintro e w3 ⟨rfl, hb⟩
      clear cHA lHA
      have hs3 := hb.size
      have HL' := Lib.hid (HL.out.trans (hb.mono HL.out.size)); clear HL; have HL := HL'; clear HL'
      have HA' := Lib.hid (HA.out.kept hb); clear HA; have HA := HA'; clear HA'
      clear hb
      have cHA := HA.out.cell
      have lHA := HA.out.lt
      go_wp2_with fail
      go_ret
      exact ⟨rfl, HL.out⟩
    have hd : decide ((8 : Int) < (n2 : Int)) = false := by simp; omega
    have hd2 : ¬ (8 : Int) < (n2 : Int) := by omega
    have HCo' := Lib.hid (HCo.out h28)
    clear HCo
    have HCo := HCo'
    clear HCo'
    by_cases ho0 : rordsE l = 0
    case neg =>
      have hne : (rordsE l != 0) = true := by simpa using ho0
      generalize rordsE l = ro at *
      clear hM hnm hO hat2 hF hE hsh hl2
      go_enter Tryz.func9, Tryz.ntmps9
      go_wp2_with fail
      refine (HAw.out _ bl_).mono ?_
      rintro e w1 ⟨rfl, hb⟩
      have HA : Hid (Blk w1 (w.heap.size) 26 #[.slice A n c, .int .i64 a.lo, .int .i64 a.hi, .int .i64 a.cur, .int .i64 a.lim]) := Lib.hid bk_
      have HL : Hid (Below w.heap.size w w1) := Lib.hid bl_
      have hs1 := HL.out.size
      clear hb
      have cHA := HA.out.cell
      have lHA := HA.out.lt
      go_wp2_with fail
      refine (HVa.out _ HL.out).mono ?_
      rintro e w2 ⟨rfl, hb⟩
      clear cHA lHA
      have hs2 := hb.size
      have HL' := Lib.hid (HL.out.trans (hb.mono HL.out.size)); clear HL; have HL := HL'; clear HL'
      have HA' := Lib.hid (HA.out.kept hb); clear HA; have HA := HA'; clear HA'
      clear hb
      have cHA := HA.out.cell
      have lHA := HA.out.lt
      go_wp2_with fail
      refine (HCo.out _ HL.out).mono ?_
      rintro e w3 ⟨rfl, hb⟩
      clear cHA lHA
      have hs3 := hb.size
      have HL' := Lib.hid (HL.out.trans (hb.mono HL.out.size)); clear HL; have HL := HL'; clear HL'
      have HA' := Lib.hid (HA.out.kept hb); clear HA; have HA := HA'; clear HA'
      clear hb
      have cHA := HA.out.cell
      have lHA := HA.out.lt
      go_wp2_with fail
      refine (HAw.out _ HL.out).mono ?_
      rintro e w4 ⟨rfl, hb⟩
      clear cHA lHA
      have hs4 := hb.size
      have HL' := Lib.hid (HL.out.trans (hb.mono HL.out.size)); clear HL; have HL := HL'; clear HL'
      have HA' := Lib.hid (HA.out.kept hb); clear HA; have HA := HA'; clear HA'
      clear hb
      have cHA := HA.out.cell
      have lHA := HA.out.lt
      go_wp2_with fail
      go_ret
      exact ⟨rfl, HL.out⟩
    obtain ⟨_, ho⟩ := rords_zero ho0
    rw [ho0] at HCo
    have hFt := fit_of hE
    have hcu := hFt.cur
    have hn0 := hFt.n0
    rw [hl] at hn0
    have HOw := Lib.hid (fun W (hW : Below w.heap.size w W) => own_r w.heap.size A n c a W (hM.below hW) hW.size (by omega))
    have HTo := Lib.hid (fun M W A c (hm : MsAt W W.heap.size A n M) => told_r W.heap.size A n c ⟨M, a.lo, a.hi, a.cur, a.lim⟩ W hm (Nat.le_refl _) (by omega))
    have HOo := Lib.hid (fun M W A c (hm : MsAt W W.heap.size A n M) => own_r W.heap.size A n c ⟨M, a.lo, a.hi, a.cur, a.lim⟩ W hm (Nat.le_refl _) (by omega))
    have HSa := Lib.hid (fun M W A1 A2 c1 c2 (h1 : MsAt W W.heap.size A1 n M) (h2 : MsAt W W.heap.size A2 n M) => Same_self W.heap.size W.heap.size A1 A2 n c1 c2 ⟨M, a.lo, a.hi, a.cur, a.lim⟩ W h1 h2 (Nat.le_refl _) (Nat.le_refl _) (by omega))
    unfold OwnR at HTo HOo
    dsimp only at HTo HOo HSa
    have HGu := Lib.hid (fun W A c (hm : MsAt W W.heap.size A n a.m) (hc : n ≤ c) => Guaranteed_any W.heap.size A n c a W hm (Nat.le_refl _) hF hc hE)
    have HMi := Lib.hid (fun W A c (hm : MsAt W W.heap.size A n a.m) (hc : n ≤ c) => Mirrored_any W.heap.size A n c a W hm (Nat.le_refl _) hF hc hE)
    have hml : (mirA a).m.length = n := by show (a.m.map _).length = n; rw [List.length_map, hl]
    have hFm : FitA (mirA a) := ⟨by rw [hml]; omega, fun x hx => by
      obtain ⟨y, hy, rfl⟩ := List.mem_map.1 hx
      rw [mirM_n]
      exact hnm y hy⟩
    have hEm := mir_ok hE
    obtain ⟨M1, hM1⟩ : ∃ M1, (mirA a).m = M1 := ⟨_, rfl⟩
    have hmE : mirA a = ⟨M1, a.lo, a.hi, a.cur, a.lim⟩ := by rw [← hM1]; rfl
    have hM1l : M1.length = n := by rw [← hM1]; exact hml
    have HMj := Lib.hid (fun W A c (hm : MsAt W W.heap.size A n (mirA a).m) (hc : n ≤ c) => (Mirrored_any W.heap.size A n c (mirA a) W hm (Nat.le_refl _) hFm hc hEm).mono (fun e w' (h : ∃ g, _) => show ∃ g, e = .returned (.tuple #[.agg #[.slice (some ⟨g, 0, none⟩) n n, .int .i64 a.lo, .int .i64 a.hi, .int .i64 a.cur, .int .i64 a.lim], .int .i64 0]) ∧ Blk w' g 73 (mds a.m).toArray ∧ Below W.heap.size W w' from by
      obtain ⟨g, h1, h2, _, h3⟩ := h
      refine ⟨g, h1, ?_, h3⟩
      have h2 : Blk w' g 73 (mds (mirA (mirA a)).m).toArray := h2
      rw [mir_mir] at h2
      exact h2))
    have hlo : 0 < l.length := by omega
    have ho1 := ho l[0] (List.getElem_mem hlo)
    have hon := order_zero ho1
    have HCh := Lib.hid (fun W A c (hm : MsAt W W.heap.size A n a.m) (hc : n ≤ c) => Choose_any W.heap.size A n c a l[0] W hm (Nat.le_refl _) hF hc)
    have HCm := Lib.hid (fun W A c (hm : MsAt W W.heap.size A n (mirA a).m) (hc : n ≤ c) => Choose_any W.heap.size A n c (mirA a) ⟨(l[0]).n, -(l[0]).c⟩ W hm (Nat.le_refl _) hFm hc)
    rw [keeps_choE hE ho1] at HCm
    have HLm : Hid ((l[0]).c ≠ 0 → choL (mirA a) ⟨(l[0]).n, -(l[0]).c⟩ = choL a l[0]) := Lib.hid (keeps_cho hE ho1)
    have HRs := Lib.hid (fun W A c (hm : MsAt W W.heap.size A n a.m) (hc : n ≤ c) => Reserve_any W.heap.size A n c a (l[0]).n W hm (Nat.le_refl _) hF hc)
    have hrs := res_okK hE (l[0]).n hon.1
    have hrv : resV a (l[0]).n = if resE a (l[0]).n = 0 then ((usL a).length : Int) - (l[0]).n else 0 := rfl
    have HUs := Lib.hid (fun W (hW : Below w.heap.size w W) => rUsable_any w.heap.size A n c a W (hM.below hW) hW.size (by omega))
    have hUS : usL a = idxs usB 0 a.m := rfl
    rw [← hUS] at HUs
    have hus := us_len_le a
    rw [hl] at hus
    have hL1 : (choL a l[0]).length ≤ 16 := choL_le
    have hL2 : (choL (mirA a) ⟨(l[0]).n, -(l[0]).c⟩).length ≤ 16 := choL_le
    have HEn := Lib.hid (And.intro hE (And.intro ho (And.intro hF hl)))
    have HA2 := Lib.hid hat2
    have HMs := Lib.hid hM
    have hgl := guar_le a
    have HNb : Hid (∀ (b : Ar) (i : Nat) (o : Od), Near a b ((i : Int) * a.cur) → i < guarL a → armE b = 0 → orderE o = 0 → stepE b o ≠ 30) := Lib.hid (fun b i o h1 h2 h3 h4 => near_band h1 h2 (fit_of h3) (order_zero h4).1.1)
    rw [hmE] at HMi HMj HCm
    dsimp only at HMi HMj HCm
    obtain ⟨b0, o0, eA2, hb0, z0, z1⟩ := hat2 0 hlo
    have HZ0 := Lib.hid z0
    have HZ1 := Lib.hid z1
    generalize guarL a = gu at *
    clear hM hnm hF hsh ho hE hFt ho1 hml hFm hEm hM1 hO hat2 ho0 hUS hl z0 z1
    have HLo : Hid (∀ W, Below w.heap.size w W → W.cell? ⟨b0, o0 + 0 * 2, none⟩ = some (.int .i64 (l[0]).n) ∧ W.cell? ⟨b0, o0 + 0 * 2 + 1, none⟩ = some (.int .i64 (l[0]).c)) := Lib.hid (fun W hW => ⟨(hW.cell (p := ⟨b0, o0 + 0 * 2, none⟩) hb0).trans HZ0.out, (hW.cell (p := ⟨b0, o0 + 0 * 2 + 1, none⟩) hb0).trans HZ1.out⟩)
    clear HZ0 HZ1
    have HRs0 := Lib.hid hrs
    have HRv0 := Lib.hid hrv
    have HmE := Lib.hid hmE
    have HeA := Lib.hid eA2
    clear hrs hrv hmE eA2
    go_enter Tryz.func9, Tryz.ntmps9
    go_wp2_with fail
    refine (HAw.out _ bl_).mono ?_
    rintro e w1 ⟨rfl, hb⟩
    have HA : Hid (Blk w1 (w.heap.size) 26 #[.slice A n c, .int .i64 a.lo, .int .i64 a.hi, .int .i64 a.cur, .int .i64 a.lim]) := Lib.hid bk_
    have HL : Hid (Below w.heap.size w w1) := Lib.hid bl_
    have hs1 := HL.out.size
    clear hb
    have cHA := HA.out.cell
    have lHA := HA.out.lt
    go_wp2_with fail
    refine (HVa.out _ HL.out).mono ?_
    rintro e w2 ⟨rfl, hb⟩
    clear cHA lHA
    have hs2 := hb.size
    have HL' := Lib.hid (HL.out.trans (hb.mono HL.out.size)); clear HL; have HL := HL'; clear HL'
    have HA' := Lib.hid (HA.out.kept hb); clear HA; have HA := HA'; clear HA'
    clear hb
    have cHA := HA.out.cell
    have lHA := HA.out.lt
    go_wp2_with fail
    refine (HCo.out _ HL.out).mono ?_
    rintro e w3 ⟨rfl, hb⟩
    clear cHA lHA
    have hs3 := hb.size
    have HL' := Lib.hid (HL.out.trans (hb.mono HL.out.size)); clear HL; have HL := HL'; clear HL'
    have HA' := Lib.hid (HA.out.kept hb); clear HA; have HA := HA'; clear HA'
    clear hb
    have cHA := HA.out.cell
    have lHA := HA.out.lt
    go_wp2_with fail
    refine (HOw.out _ HL.out).mono ?_
    rintro e w4 ⟨A4, c4, rfl, hm, hc, hb⟩
    have HM4 := Lib.hid hm; have HC4 := Lib.hid hc; clear hm hc
    clear cHA lHA
    have hs4 := hb.size
    have HL' := Lib.hid (HL.out.trans (hb.mono HL.out.size)); clear HL; have HL := HL'; clear HL'
    have HA' := Lib.hid (HA.out.kept hb); clear HA; have HA := HA'; clear HA'
    clear hb
    have cHA := HA.out.cell
    have lHA := HA.out.lt
    go_wp2_with fail
    refine (HGu.out _ _ _ HM4.out HC4.out).mono ?_
    rintro e w5 ⟨rfl, hb⟩
    clear HM4 HC4
    clear cHA lHA
    have hs5 := hb.size
    have HL' := Lib.hid (HL.out.trans (hb.mono HL.out.size)); clear HL; have HL := HL'; clear HL'
    have HA' := Lib.hid (HA.out.kept hb); clear HA; have HA := HA'; clear HA'
    clear hb
    have cHA := HA.out.cell
    have lHA := HA.out.lt
    have hg1 : decide ((gu : Int) < 0) = false := by simp
    have hg2 : decide ((256 : Int) < (gu : Int)) = false := by simp; omega
    have hg3 : ¬ (256 : Int) < (gu : Int) := by omega
    go_wp2_with fail
    refine (HOw.out _ HL.out).mono ?_
    rintro e w6 ⟨A6, c6, rfl, hm, hc, hb⟩
    have HM6 := Lib.hid hm; have HC6 := Lib.hid hc; clear hm hc
    clear cHA lHA
    have hs6 := hb.size
    have HL' := Lib.hid (HL.out.trans (hb.mono HL.out.size)); clear HL; have HL := HL'; clear HL'
    have HA' := Lib.hid (HA.out.kept hb); clear HA; have HA := HA'; clear HA'
    clear hb
    have cHA := HA.out.cell
    have lHA := HA.out.lt
    go_upto_block 0 with fail
    refine wp_world ?_
    intro W0 hW
    have hal : Below w6.heap.size w6 W0 := by rw [hW]; exact (Below.refl _ _).alloc (Nat.le_refl _) _
    have HFw : Hid (KwI w w6 w6.heap.size A n c a A6 c6 a.m W0) := Lib.hid ⟨HA.out.kept hal, by rw [hW]; exact Blk.new _ _ _, ms_kept HM6.out hal, HC6.out, HL.out.trans (hal.mono HL.out.size), hal, HA.out.lt, Nat.le_refl _⟩
    clear hal hW HM6 HC6
    go_cut [] (fun wx => Below w6.heap.size w6 wx)
    case first =>
      as_aux_lemma =>
        clear HGu HMi HMj HCh HCm HLm HRs HUs HSa HA HL cHA lHA HT HVa HCo HLo
        go_wp2_with fail
        go_loopw [10, 13, 75] (fun s10 s13 s75 wr => ∃ (i : Nat) (b : Ar) (A' : Option Addr) (c' : Nat), i ≤ n2 ∧ s75 = .int .i64 (i : Int) ∧ Hid (armE b = 0 ∧ Near a b ((i : Int) * a.cur)) ∧ KwI w w6 w6.heap.size A n c a A' c' b.m wr) (fun _ _ s75 _ => n2 - (intOf s75).toNat)
        case atStart => exact ⟨0, a, A6, c6, by omega, rfl, Lib.hid ⟨HEn.out.1, by simpa using Near.start (a := a)⟩, HFw.out⟩
        case round =>
        clear HFw
        obtain ⟨i, b, A', c', hi, rfl, HBb, hI⟩ := hrel
        have HI := Lib.hid hI
        have hsr := hI.low.size
        have cA := hI.bA.cell
        have lA := hI.bA.lt
        have cN := hI.bN.cell
        have lN := hI.bN.lt
        clear hI
        by_cases hlt : i < n2
        case neg =>
          obtain rfl : i = n2 := by omega
          go_wp2_with fail
          go_meet
          case rel => exact HI.out.lk
        case pos =>
        have hil : i < l.length := by omega
        obtain ⟨bo, oo, eA2, hbo, z0, z1⟩ := HA2.out i hil
        have kb : ∀ j, wr.cell? ⟨bo, j, none⟩ = w.cell? ⟨bo, j, none⟩ := fun j => HI.out.low.cell (p := ⟨bo, j, none⟩) hbo
        rw [← kb] at z0 z1
        clear kb
        have hbw : bo < wr.heap.size := by omega
        have hok : orderE l[i] = 0 := HEn.out.2.1 _ (List.getElem_mem hil)
        have hS4 := HBb.out.2.s
        have hbln : b.m.length = n := hS4.len.trans HEn.out.2.2.2
        have hFb := fit_step HEn.out.2.2.1 hS4
        have hbm := same_mk hS4
        have hstp := stp_eq (b := b) HBb.out.1 hok
        have HSt := Lib.hid (fun W A c (hm : MsAt W W.heap.size A n b.m) (hc : n ≤ c) => Step_any W.heap.size A n c b l[i] W hm (Nat.le_refl _) hFb hc)
        rw [hstp] at HSt
        subst eA2
        rw [hbm] at HSt
        unfold StepRes at HSt
        dsimp only at HSt
        rw [hbln] at HSt
        rw [← hbm] at HSt
        have HN30 := Lib.hid (fun (hg : i < gu) => HNb.out b i l[i] HBb.out.2 hg HBb.out.1 hok)
        have HOk := Lib.hid (And.intro hok (And.intro hbln (And.intro hFb hbm)))
        clear hok hS4 hbln hFb hbm hstp
        generalize l[i] = o at *
        go_upto_region 10 with fail
        have hb8 : Below wr.heap.size wr (wr.alloc (.cells #[.int .i64 o.n, .int .i64 o.c] 68)) := (Below.refl _ _).alloc (Nat.le_refl _) _
        have HI8 := Lib.hid (HI.out.kept hb8)
        have HOx := Lib.hid (Blk.new wr 68 #[.int .i64 o.n, .int .i64 o.c])
        clear hb8 z0 z1 cA lA cN lN HI hbo
        generalize (wr.alloc _) = w8 at *
        generalize wr.heap.size = ob at *
        have cN := HI8.out.bN.cell
        have lN := HI8.out.bN.lt
        have cO := HOx.out.cell
        have lO := HOx.out.lt
        have hs8 := HI8.out.low.size
        by_cases hg : i < gu
        case neg =>
          have hgd : decide ((gu : Int) ≤ (i : Int)) = true := by simp; omega
          have hgn : (gu : Int) ≤ (i : Int) := by omega
          go_wp2_with fail
          go_meet
          case rel => exact HI8.out.lk
        case pos =>
        have hgd : decide ((gu : Int) ≤ (i : Int)) = false := by simp; omega
        have hgn : ¬ (gu : Int) ≤ (i : Int) := by omega
        have h30 := HN30.out hg
        obtain ⟨er, her⟩ : ∃ er, stepE b o = er := ⟨_, rfl⟩
        rw [her] at HSt h30
        have HEr := Lib.hid her
        have h30d : (er == 30) = false := by simpa using h30
        clear her h30 HN30 HNb
        by_cases h0 : er = 0
        case neg =>
          as_aux_lemma =>
            have h0d : (er == 0) = false := by simpa using h0
            have HS0 := Lib.hid (fun W A c hm hc => (HSt.out W A c hm hc).mono (fun e w' (h : _ ∧ _) => show e = .returned (.tuple #[.agg #[.slice none 0 0, .int .i64 0, .int .i64 0, .int .i64 0, .int .i64 0], .int .i64 er]) ∧ Below W.heap.size W w' from by
              obtain ⟨hb, ⟨h1, _⟩ | ⟨_, h1⟩⟩ := h
              · exact absurd h1 h0
              · exact ⟨h1, hb⟩))
            clear HSt
            go_upto_region 11 with fail
            go_cut [12, 13] (fun s12 s13 wx => ∃ b12 : Nat, s12 = .pointer (some ⟨b12, 0, none⟩) ∧ s13 = .int .i64 er ∧ Below w8.heap.size w8 wx)
            case first =>
              as_aux_lemma =>
                have HP := Lib.hid (Below.refl w8.heap.size w8)
                (refine wp_region_calm [] [0, 3] 9 (by kernel_rfl) rfl (by kernel_rfl) (by kernel_rfl) (by kernel_rfl) ?_; simp only [pickB, List.filterMap_cons, List.filterMap_nil, List.getElem?_toArray, List.getElem?_cons_zero, List.getElem?_cons_succ]; (repeat (first | ((first | (with_reducible refine quietL_plain rfl (fun K hK => ?_)) | (with_reducible refine quietL_want (by with_unfolding_all rfl) (fun K hK => ?_))); (apply Exists.intro; refine ⟨fun wx hx => ?_, ?_⟩; (· (have hcx := ifs_ex hx); simp [go_sem, *, ↓IntWalk.iteOmega] <;> (first | rfl | exact ⟨rfl, rfl⟩ | skip)); (simp only [Act.put, List.setIfInBounds_toArray, List.set_cons_zero, List.set_cons_succ]; refine hK _ ?_; clear hK K))) | ((with_reducible refine quietL_skip (by with_unfolding_all rfl) ?_); simp only [Act.put, List.setIfInBounds_toArray, List.set_cons_zero, List.set_cons_succ]))); refine quietL_nil ?_)
                refine anyB_two (i := 1) (j := 8) (by kernel_rfl) rfl rfl rfl rfl ?_ ?_
                · skip
                  intro wa0 hba0 K hK
                  have hsa0 := hba0.size
                  (try simp at hsa0)
                  replace HP := Lib.hid (HP.out.trans (hba0.mono HP.out.size))
                  (try replace BB := Lib.hid (BB.out.kept hba0))
                  (try replace HMo := Lib.hid (ms_kept HMo.out hba0))
                  go_wp2_with fail
                  refine (HTo.out _ _ _ _ (ms_kept HI8.out.r HP.out)).mono ?_
                  rintro e wb0 ⟨At, ct, rfl, hm, hc, hbb0⟩
                  have hsb0 := hbb0.size
                  have HMo := Lib.hid hm; clear hm hc
                  replace HP := Lib.hid (HP.out.trans (hbb0.mono HP.out.size))
                  (try replace BB := Lib.hid (BB.out.kept hbb0))
                  go_wp2
                  refine ⟨xs_, ?_⟩
                  refine anyB_two (i := 2) (j := 8) (by kernel_rfl) rfl rfl rfl rfl ?_ ?_
                  · skip
                    intro wa1 hba1 K hK
                    have hsa1 := hba1.size
                    (try simp at hsa1)
                    replace HP := Lib.hid (HP.out.trans (hba1.mono HP.out.size))
                    (try replace BB := Lib.hid (BB.out.kept hba1))
                    (try replace HMo := Lib.hid (ms_kept HMo.out hba1))
                    go_wp2_with fail
                    refine (HOo.out _ _ _ _ HMo.out).mono ?_
                    rintro e wb1 ⟨Ao, co, rfl, hm, hc, hbb1⟩
                    have hsb1 := hbb1.size
                    replace HMo := Lib.hid hm; have HCo2 := Lib.hid hc; clear hm hc
                    replace HP := Lib.hid (HP.out.trans (hbb1.mono HP.out.size))
                    (try replace BB := Lib.hid (BB.out.kept hbb1))
                    go_wp2
                    refine ⟨xs_, ?_⟩
                    refine anyB_two (i := 4) (j := 8) (by kernel_rfl) rfl rfl rfl rfl ?_ ?_
                    · skip
                      intro wa2 hba2 K hK
                      have hsa2 := hba2.size
                      (try simp at hsa2)
                      replace HP := Lib.hid (HP.out.trans (hba2.mono HP.out.size))
                      (try replace BB := Lib.hid (BB.out.kept hba2))
                      (try replace HMo := Lib.hid (ms_kept HMo.out hba2))
                      go_wp2_with fail
                      refine (HS0.out _ _ _ HMo.out HCo2.out).mono ?_
                      rintro e wb2 ⟨rfl, hbb2⟩
                      have hsb2 := hbb2.size
                      clear HMo HCo2
                      replace HP := Lib.hid (HP.out.trans (hbb2.mono HP.out.size))
                      (try replace BB := Lib.hid (BB.out.kept hbb2))
                      go_wp2
                      refine ⟨xs_, ?_⟩
                      (refine anyB_quiet_at (by kernel_rfl) calm_panic xs_ 3 [5, 6, 7] _ _ (by kernel_rfl) (by decide +kernel) ?_; simp only [pickB, List.filterMap_cons, List.filterMap_nil, List.getElem?_toArray, List.getElem?_cons_zero, List.getElem?_cons_succ]; (repeat (first | ((first | (with_reducible refine quietL_plain rfl (fun K hK => ?_)) | (with_reducible refine quietL_want (by with_unfolding_all rfl) (fun K hK => ?_))); (apply Exists.intro; refine ⟨fun wx hx => ?_, ?_⟩; (· (have hcx := ifs_ex hx); simp [go_sem, *, ↓IntWalk.iteOmega] <;> (first | rfl | exact ⟨rfl, rfl⟩ | fail)); (simp only [Act.put, List.setIfInBounds_toArray, List.set_cons_zero, List.set_cons_succ]; refine hK _ ?_; clear hK K))) | ((with_reducible refine quietL_skip (by with_unfolding_all rfl) ?_); simp only [Act.put, List.setIfInBounds_toArray, List.set_cons_zero, List.set_cons_succ]))); refine quietL_nil ?_)
                      refine anyB_one (i := 8) (by kernel_rfl) rfl rfl ?_
                      intro wh hbh K hK
                      have hsh := hbh.size
                      (try simp at hsh)
                      replace HP := Lib.hid (HP.out.trans (hbh.mono HP.out.size))
                      (try replace HMo := Lib.hid (ms_kept HMo.out hbh))
                      have hbx : Below wh.heap.size wh (wh.alloc (.cells #[.slice none 0 0, .int .i64 0, .int .i64 0, .int .i64 0, .int .i64 0] 35)) := (Below.refl _ _).alloc (Nat.le_refl _) _
                      replace HP := Lib.hid (HP.out.trans (hbx.mono HP.out.size))
                      (try replace HMo := Lib.hid (ms_kept HMo.out hbx))
                      have BB := Lib.hid (Blk.new wh 35 #[.slice none 0 0, .int .i64 0, .int .i64 0, .int .i64 0, .int .i64 0])
                      have hwh := HP.out.size
                      clear hbx
                      go_wp2
                      refine ⟨xs_, ?_⟩
                      refine anyB_one (i := 9) (by kernel_rfl) rfl rfl ?_
                      intro wi hbi K hK
                      have hsi := hbi.size
                      (try simp at hsi)
                      replace HP := Lib.hid (HP.out.trans (hbi.mono HP.out.size))
                      replace BB := Lib.hid (BB.out.kept hbi)
                      (try replace HMo := Lib.hid (ms_kept HMo.out hbi))
                      have cB := BB.out.cell
                      have fB := BB.out.frozen
                      have lB := BB.out.lt
                      go_wp2
                      refine ⟨xs_, ?_⟩
                      have BC := Lib.hid (put5_blk (v0 := .slice none 0 0) (v1 := .int .i64 0) (v2 := .int .i64 0) (v3 := .int .i64 0) (v4 := .int .i64 0) BB.out)
                      have HPc := Lib.hid (put5_low (b := wh.heap.size) (v0 := .slice none 0 0) (v1 := .int .i64 0) (v2 := .int .i64 0) (v3 := .int .i64 0) (v4 := .int .i64 0) HP.out (by omega))
                      clear cB fB lB HP BB
                      refine anyB_one (i := 10) (by kernel_rfl) rfl rfl ?_
                      intro wj hbj K hK
                      have hsj := hbj.size
                      (try simp at hsj)
                      go_wp2
                      refine ⟨xs_, ?_⟩
                      refine anyB_end (by kernel_rfl) ?_
                      intro wk hbk
                      have hsk := hbk.size
                      simp only [Calm]
                      have BE := Lib.hid ((BC.out.kept hbj).kept hbk)
                      have HPe := Lib.hid ((HPc.out.trans (hbj.mono HPc.out.size)).trans (hbk.mono (by have := HPc.out.size; omega)))
                      go_wp2_with fail
                      go_meet
                      case rel => exact ⟨wh.heap.size, rfl, rfl, HPe.out⟩
                    · skip
                      intro wh hbh K hK
                      have hsh := hbh.size
                      (try simp at hsh)
                      replace HP := Lib.hid (HP.out.trans (hbh.mono HP.out.size))
                      (try replace HMo := Lib.hid (ms_kept HMo.out hbh))
                      have hbx : Below wh.heap.size wh (wh.alloc (.cells #[.slice none 0 0, .int .i64 0, .int .i64 0, .int .i64 0, .int .i64 0] 35)) := (Below.refl _ _).alloc (Nat.le_refl _) _
                      replace HP := Lib.hid (HP.out.trans (hbx.mono HP.out.size))
                      (try replace HMo := Lib.hid (ms_kept HMo.out hbx))
                      have BB := Lib.hid (Blk.new wh 35 #[.slice none 0 0, .int .i64 0, .int .i64 0, .int .i64 0, .int .i64 0])
                      have hwh := HP.out.size
                      clear hbx
                      go_wp2
                      refine ⟨xs_, ?_⟩
                      refine anyB_one (i := 4) (by kernel_rfl) rfl rfl ?_
                      intro wa2 hba2 K hK
                      have hsa2 := hba2.size
                      (try simp at hsa2)
                      replace HP := Lib.hid (HP.out.trans (hba2.mono HP.out.size))
                      (try replace BB := Lib.hid (BB.out.kept hba2))
                      (try replace HMo := Lib.hid (ms_kept HMo.out hba2))
                      go_wp2_with fail
                      refine (HS0.out _ _ _ HMo.out HCo2.out).mono ?_
                      rintro e wb2 ⟨rfl, hbb2⟩
                      have hsb2 := hbb2.size
                      clear HMo HCo2
                      replace HP := Lib.hid (HP.out.trans (hbb2.mono HP.out.size))
                      (try replace BB := Lib.hid (BB.out.kept hbb2))
                      go_wp2
                      refine ⟨xs_, ?_⟩
                      (refine anyB_quiet_at (by kernel_rfl) calm_panic xs_ 2 [5, 6, 7] _ _ (by kernel_rfl) (by decide +kernel) ?_; simp only [pickB, List.filterMap_cons, List.filterMap_nil, List.getElem?_toArray, List.getElem?_cons_zero, List.getElem?_cons_succ]; (repeat (first | ((first | (with_reducible refine quietL_plain rfl (fun K hK => ?_)) | (with_reducible refine quietL_want (by with_unfolding_all rfl) (fun K hK => ?_))); (apply Exists.intro; refine ⟨fun wx hx => ?_, ?_⟩; (· (have hcx := ifs_ex hx); simp [go_sem, *, ↓IntWalk.iteOmega] <;> (first | rfl | exact ⟨rfl, rfl⟩ | fail)); (simp only [Act.put, List.setIfInBounds_toArray, List.set_cons_zero, List.set_cons_succ]; refine hK _ ?_; clear hK K))) | ((with_reducible refine quietL_skip (by with_unfolding_all rfl) ?_); simp only [Act.put, List.setIfInBounds_toArray, List.set_cons_zero, List.set_cons_succ]))); refine quietL_nil ?_)
                      refine anyB_one (i := 9) (by kernel_rfl) rfl rfl ?_
                      intro wi hbi K hK
                      have hsi := hbi.size
                      (try simp at hsi)
                      replace HP := Lib.hid (HP.out.trans (hbi.mono HP.out.size))
                      replace BB := Lib.hid (BB.out.kept hbi)
                      (try replace HMo := Lib.hid (ms_kept HMo.out hbi))
                      have cB := BB.out.cell
                      have fB := BB.out.frozen
                      have lB := BB.out.lt
                      go_wp2
                      refine ⟨xs_, ?_⟩
                      have BC := Lib.hid (put5_blk (v0 := .slice none 0 0) (v1 := .int .i64 0) (v2 := .int .i64 0) (v3 := .int .i64 0) (v4 := .int .i64 0) BB.out)
                      have HPc := Lib.hid (put5_low (b := wh.heap.size) (v0 := .slice none 0 0) (v1 := .int .i64 0) (v2 := .int .i64 0) (v3 := .int .i64 0) (v4 := .int .i64 0) HP.out (by omega))
                      clear cB fB lB HP BB
                      refine anyB_one (i := 10) (by kernel_rfl) rfl rfl ?_
                      intro wj hbj K hK
                      have hsj := hbj.size
                      (try simp at hsj)
                      go_wp2
                      refine ⟨xs_, ?_⟩
                      refine anyB_end (by kernel_rfl) ?_
                      intro wk hbk
                      have hsk := hbk.size
                      simp only [Calm]
                      have BE := Lib.hid ((BC.out.kept hbj).kept hbk)
                      have HPe := Lib.hid ((HPc.out.trans (hbj.mono HPc.out.size)).trans (hbk.mono (by have := HPc.out.size; omega)))
                      go_wp2_with fail
                      go_meet
                      case rel => exact ⟨wh.heap.size, rfl, rfl, HPe.out⟩
                  · skip
                    intro wh hbh K hK
                    have hsh := hbh.size
                    (try simp at hsh)
                    replace HP := Lib.hid (HP.out.trans (hbh.mono HP.out.size))
                    (try replace HMo := Lib.hid (ms_kept HMo.out hbh))
                    have hbx : Below wh.heap.size wh (wh.alloc (.cells #[.slice none 0 0, .int .i64 0, .int .i64 0, .int .i64 0, .int .i64 0] 35)) := (Below.refl _ _).alloc (Nat.le_refl _) _
                    replace HP := Lib.hid (HP.out.trans (hbx.mono HP.out.size))
                    (try replace HMo := Lib.hid (ms_kept HMo.out hbx))
                    have BB := Lib.hid (Blk.new wh 35 #[.slice none 0 0, .int .i64 0, .int .i64 0, .int .i64 0, .int .i64 0])
                    have hwh := HP.out.size
                    clear hbx
                    go_wp2
                    refine ⟨xs_, ?_⟩
                    refine anyB_one (i := 2) (by kernel_rfl) rfl rfl ?_
                    intro wa1 hba1 K hK
                    have hsa1 := hba1.size
                    (try simp at hsa1)
                    replace HP := Lib.hid (HP.out.trans (hba1.mono HP.out.size))
                    (try replace BB := Lib.hid (BB.out.kept hba1))
                    (try replace HMo := Lib.hid (ms_kept HMo.out hba1))
                    go_wp2_with fail
                    refine (HOo.out _ _ _ _ HMo.out).mono ?_
                    rintro e wb1 ⟨Ao, co, rfl, hm, hc, hbb1⟩
                    have hsb1 := hbb1.size
                    replace HMo := Lib.hid hm; have HCo2 := Lib.hid hc; clear hm hc
                    replace HP := Lib.hid (HP.out.trans (hbb1.mono HP.out.size))
                    (try replace BB := Lib.hid (BB.out.kept hbb1))
                    go_wp2
                    refine ⟨xs_, ?_⟩
                    refine anyB_one (i := 4) (by kernel_rfl) rfl rfl ?_
                    intro wa2 hba2 K hK
                    have hsa2 := hba2.size
                    (try simp at hsa2)
                    replace HP := Lib.hid (HP.out.trans (hba2.mono HP.out.size))
                    (try replace BB := Lib.hid (BB.out.kept hba2))
                    (try replace HMo := Lib.hid (ms_kept HMo.out hba2))
                    go_wp2_with fail
                    refine (HS0.out _ _ _ HMo.out HCo2.out).mono ?_
                    rintro e wb2 ⟨rfl, hbb2⟩
                    have hsb2 := hbb2.size
                    clear HMo HCo2
                    replace HP := Lib.hid (HP.out.trans (hbb2.mono HP.out.size))
                    (try replace BB := Lib.hid (BB.out.kept hbb2))
                    go_wp2
                    refine ⟨xs_, ?_⟩
                    (refine anyB_quiet_at (by kernel_rfl) calm_panic xs_ 2 [5, 6, 7] _ _ (by kernel_rfl) (by decide +kernel) ?_; simp only [pickB, List.filterMap_cons, List.filterMap_nil, List.getElem?_toArray, List.getElem?_cons_zero, List.getElem?_cons_succ]; (repeat (first | ((first | (with_reducible refine quietL_plain rfl (fun K hK => ?_)) | (with_reducible refine quietL_want (by with_unfolding_all rfl) (fun K hK => ?_))); (apply Exists.intro; refine ⟨fun wx hx => ?_, ?_⟩; (· (have hcx := ifs_ex hx); simp [go_sem, *, ↓IntWalk.iteOmega] <;> (first | rfl | exact ⟨rfl, rfl⟩ | fail)); (simp only [Act.put, List.setIfInBounds_toArray, List.set_cons_zero, List.set_cons_succ]; refine hK _ ?_; clear hK K))) | ((with_reducible refine quietL_skip (by with_unfolding_all rfl) ?_); simp only [Act.put, List.setIfInBounds_toArray, List.set_cons_zero, List.set_cons_succ]))); refine quietL_nil ?_)
                    refine anyB_one (i := 9) (by kernel_rfl) rfl rfl ?_
                    intro wi hbi K hK
                    have hsi := hbi.size
                    (try simp at hsi)
                    replace HP := Lib.hid (HP.out.trans (hbi.mono HP.out.size))
                    replace BB := Lib.hid (BB.out.kept hbi)
                    (try replace HMo := Lib.hid (ms_kept HMo.out hbi))
                    have cB := BB.out.cell
                    have fB := BB.out.frozen
                    have lB := BB.out.lt
                    go_wp2
                    refine ⟨xs_, ?_⟩
                    have BC := Lib.hid (put5_blk (v0 := .slice none 0 0) (v1 := .int .i64 0) (v2 := .int .i64 0) (v3 := .int .i64 0) (v4 := .int .i64 0) BB.out)
                    have HPc := Lib.hid (put5_low (b := wh.heap.size) (v0 := .slice none 0 0) (v1 := .int .i64 0) (v2 := .int .i64 0) (v3 := .int .i64 0) (v4 := .int .i64 0) HP.out (by omega))
                    clear cB fB lB HP BB
                    refine anyB_one (i := 10) (by kernel_rfl) rfl rfl ?_
                    intro wj hbj K hK
                    have hsj := hbj.size
                    (try simp at hsj)
                    go_wp2
                    refine ⟨xs_, ?_⟩
                    refine anyB_end (by kernel_rfl) ?_
                    intro wk hbk
                    have hsk := hbk.size
                    simp only [Calm]
                    have BE := Lib.hid ((BC.out.kept hbj).kept hbk)
                    have HPe := Lib.hid ((HPc.out.trans (hbj.mono HPc.out.size)).trans (hbk.mono (by have := HPc.out.size; omega)))
                    go_wp2_with fail
                    go_meet
                    case rel => exact ⟨wh.heap.size, rfl, rfl, HPe.out⟩
                · skip
                  intro wh hbh K hK
                  have hsh := hbh.size
                  (try simp at hsh)
                  replace HP := Lib.hid (HP.out.trans (hbh.mono HP.out.size))
                  (try replace HMo := Lib.hid (ms_kept HMo.out hbh))
                  have hbx : Below wh.heap.size wh (wh.alloc (.cells #[.slice none 0 0, .int .i64 0, .int .i64 0, .int .i64 0, .int .i64 0] 35)) := (Below.refl _ _).alloc (Nat.le_refl _) _
                  replace HP := Lib.hid (HP.out.trans (hbx.mono HP.out.size))
                  (try replace HMo := Lib.hid (ms_kept HMo.out hbx))
                  have BB := Lib.hid (Blk.new wh 35 #[.slice none 0 0, .int .i64 0, .int .i64 0, .int .i64 0, .int .i64 0])
                  have hwh := HP.out.size
                  clear hbx
                  go_wp2
                  refine ⟨xs_, ?_⟩
                  refine anyB_one (i := 1) (by kernel_rfl) rfl rfl ?_
                  intro wa0 hba0 K hK
                  have hsa0 := hba0.size
                  (try simp at hsa0)
                  replace HP := Lib.hid (HP.out.trans (hba0.mono HP.out.size))
                  (try replace BB := Lib.hid (BB.out.kept hba0))
                  (try replace HMo := Lib.hid (ms_kept HMo.out hba0))
                  go_wp2_with fail
                  refine (HTo.out _ _ _ _ (ms_kept HI8.out.r HP.out)).mono ?_
                  rintro e wb0 ⟨At, ct, rfl, hm, hc, hbb0⟩
                  have hsb0 := hbb0.size
                  have HMo := Lib.hid hm; clear hm hc
                  replace HP := Lib.hid (HP.out.trans (hbb0.mono HP.out.size))
                  (try replace BB := Lib.hid (BB.out.kept hbb0))
                  go_wp2
                  refine ⟨xs_, ?_⟩
                  refine anyB_one (i := 2) (by kernel_rfl) rfl rfl ?_
                  intro wa1 hba1 K hK
                  have hsa1 := hba1.size
                  (try simp at hsa1)
                  replace HP := Lib.hid (HP.out.trans (hba1.mono HP.out.size))
                  (try replace BB := Lib.hid (BB.out.kept hba1))
                  (try replace HMo := Lib.hid (ms_kept HMo.out hba1))
                  go_wp2_with fail
                  refine (HOo.out _ _ _ _ HMo.out).mono ?_
                  rintro e wb1 ⟨Ao, co, rfl, hm, hc, hbb1⟩
                  have hsb1 := hbb1.size
                  replace HMo := Lib.hid hm; have HCo2 := Lib.hid hc; clear hm hc
                  replace HP := Lib.hid (HP.out.trans (hbb1.mono HP.out.size))
                  (try replace BB := Lib.hid (BB.out.kept hbb1))
                  go_wp2
                  refine ⟨xs_, ?_⟩
                  refine anyB_one (i := 4) (by kernel_rfl) rfl rfl ?_
                  intro wa2 hba2 K hK
                  have hsa2 := hba2.size
                  (try simp at hsa2)
                  replace HP := Lib.hid (HP.out.trans (hba2.mono HP.out.size))
                  (try replace BB := Lib.hid (BB.out.kept hba2))
                  (try replace HMo := Lib.hid (ms_kept HMo.out hba2))
                  go_wp2_with fail
                  refine (HS0.out _ _ _ HMo.out HCo2.out).mono ?_
                  rintro e wb2 ⟨rfl, hbb2⟩
                  have hsb2 := hbb2.size
                  clear HMo HCo2
                  replace HP := Lib.hid (HP.out.trans (hbb2.mono HP.out.size))
                  (try replace BB := Lib.hid (BB.out.kept hbb2))
                  go_wp2
                  refine ⟨xs_, ?_⟩
                  (refine anyB_quiet_at (by kernel_rfl) calm_panic xs_ 2 [5, 6, 7] _ _ (by kernel_rfl) (by decide +kernel) ?_; simp only [pickB, List.filterMap_cons, List.filterMap_nil, List.getElem?_toArray, List.getElem?_cons_zero, List.getElem?_cons_succ]; (repeat (first | ((first | (with_reducible refine quietL_plain rfl (fun K hK => ?_)) | (with_reducible refine quietL_want (by with_unfolding_all rfl) (fun K hK => ?_))); (apply Exists.intro; refine ⟨fun wx hx => ?_, ?_⟩; (· (have hcx := ifs_ex hx); simp [go_sem, *, ↓IntWalk.iteOmega] <;> (first | rfl | exact ⟨rfl, rfl⟩ | fail)); (simp only [Act.put, List.setIfInBounds_toArray, List.set_cons_zero, List.set_cons_succ]; refine hK _ ?_; clear hK K))) | ((with_reducible refine quietL_skip (by with_unfolding_all rfl) ?_); simp only [Act.put, List.setIfInBounds_toArray, List.set_cons_zero, List.set_cons_succ]))); refine quietL_nil ?_)
                  refine anyB_one (i := 9) (by kernel_rfl) rfl rfl ?_
                  intro wi hbi K hK
                  have hsi := hbi.size
                  (try simp at hsi)
                  replace HP := Lib.hid (HP.out.trans (hbi.mono HP.out.size))
                  replace BB := Lib.hid (BB.out.kept hbi)
                  (try replace HMo := Lib.hid (ms_kept HMo.out hbi))
                  have cB := BB.out.cell
                  have fB := BB.out.frozen
                  have lB := BB.out.lt
                  go_wp2
                  refine ⟨xs_, ?_⟩
                  have BC := Lib.hid (put5_blk (v0 := .slice none 0 0) (v1 := .int .i64 0) (v2 := .int .i64 0) (v3 := .int .i64 0) (v4 := .int .i64 0) BB.out)
                  have HPc := Lib.hid (put5_low (b := wh.heap.size) (v0 := .slice none 0 0) (v1 := .int .i64 0) (v2 := .int .i64 0) (v3 := .int .i64 0) (v4 := .int .i64 0) HP.out (by omega))
                  clear cB fB lB HP BB
                  refine anyB_one (i := 10) (by kernel_rfl) rfl rfl ?_
                  intro wj hbj K hK
                  have hsj := hbj.size
                  (try simp at hsj)
                  go_wp2
                  refine ⟨xs_, ?_⟩
                  refine anyB_end (by kernel_rfl) ?_
                  intro wk hbk
                  have hsk := hbk.size
                  simp only [Calm]
                  have BE := Lib.hid ((BC.out.kept hbj).kept hbk)
                  have HPe := Lib.hid ((HPc.out.trans (hbj.mono HPc.out.size)).trans (hbk.mono (by have := HPc.out.size; omega)))
                  go_wp2_with fail
                  go_meet
                  case rel => exact ⟨wh.heap.size, rfl, rfl, HPe.out⟩
            rename World => w9
            obtain ⟨b12, rfl, rfl, hb⟩ := hcut
            have HI9 := Lib.hid (HI8.out.kept hb)
            clear hb HS0 HI8 cN lN cO lO HOx
            go_wp2_with fail
            go_roundw
            case rel => exact ⟨i + 1, b, A', c', by omega, by go_num, Lib.hid ⟨HBb.out.1, near_more HBb.out.2 hcu.1⟩, HI9.out⟩
            case measure => simp [intOf]; omega
        case pos =>
        subst h0
        as_aux_lemma =>
          have hok := HOk.out.1
          have hS := step_zero HEr.out
          have hES := step_ok HBb.out.1 (order_zero hok).1.1 HEr.out
          have hNs := near_step HBb.out.2 hS hcu.1
          have hFS := fit_step HEn.out.2.2.1 hNs.s
          have hsm := same_mk hNs.s
          have hMl : (stepA b o).m.length = n := hNs.s.len.trans HEn.out.2.2.2
          have HCk := Lib.hid (fun W A c (hm : MsAt W W.heap.size A n (stepA b o).m) => rCheckArm_any W.heap.size A n c (stepA b o) W hm (Nat.le_refl _) hFS)
          rw [hES] at HCk
          rw [hsm] at HCk
          dsimp only at HCk
          have HS0 := Lib.hid (fun W A c hm hc => (HSt.out W A c hm hc).mono (fun e w' (h : _ ∧ _) => show ∃ g, e = .returned (.tuple #[.agg #[.slice (some ⟨g, 0, none⟩) n n, .int .i64 a.lo, .int .i64 a.hi, .int .i64 a.cur, .int .i64 a.lim], .int .i64 0]) ∧ MsAt w' w'.heap.size (some ⟨g, 0, none⟩) n (stepA b o).m ∧ Below W.heap.size W w' from by
            obtain ⟨hb, ⟨_, g, h1, h2, _⟩ | ⟨h1, _⟩⟩ := h
            · exact ⟨g, h1, (BlkArm.at (b := stepA b o) h2 hMl).more h2.lt, hb⟩
            · exact absurd rfl h1))
          have HNs := Lib.hid (And.intro hES hNs)
          clear HSt hok hS hES hNs hFS hsm hMl
          obtain ⟨M, hMe⟩ : ∃ M, (stepA b o).m = M := ⟨_, rfl⟩
          rw [hMe] at HS0 HCk
          have HMe := Lib.hid hMe
          clear hMe
          go_upto_region 11 with fail
          go_cut [12, 13] (fun s12 s13 wx => ∃ b12 g : Nat, s12 = .pointer (some ⟨b12, 0, none⟩) ∧ s13 = .int .i64 0 ∧ Blk wx b12 35 #[.slice (some ⟨g, 0, none⟩) n n, .int .i64 a.lo, .int .i64 a.hi, .int .i64 a.cur, .int .i64 a.lim] ∧ MsAt wx wx.heap.size (some ⟨g, 0, none⟩) n M ∧ Below w8.heap.size w8 wx)
          case first =>
            as_aux_lemma =>
              have HP := Lib.hid (Below.refl w8.heap.size w8)
              (refine wp_region_calm [] [0, 3] 9 (by kernel_rfl) rfl (by kernel_rfl) (by kernel_rfl) (by kernel_rfl) ?_; simp only [pickB, List.filterMap_cons, List.filterMap_nil, List.getElem?_toArray, List.getElem?_cons_zero, List.getElem?_cons_succ]; (repeat (first | ((first | (with_reducible refine quietL_plain rfl (fun K hK => ?_)) | (with_reducible refine quietL_want (by with_unfolding_all rfl) (fun K hK => ?_))); (apply Exists.intro; refine ⟨fun wx hx => ?_, ?_⟩; (· (have hcx := ifs_ex hx); simp [go_sem, *, ↓IntWalk.iteOmega] <;> (first | rfl | exact ⟨rfl, rfl⟩ | skip)); (simp only [Act.put, List.setIfInBounds_toArray, List.set_cons_zero, List.set_cons_succ]; refine hK _ ?_; clear hK K))) | ((with_reducible refine quietL_skip (by with_unfolding_all rfl) ?_); simp only [Act.put, List.setIfInBounds_toArray, List.set_cons_zero, List.set_cons_succ]))); refine quietL_nil ?_)
              refine anyB_two (i := 1) (j := 8) (by kernel_rfl) rfl rfl rfl rfl ?_ ?_
              · skip
                intro wa0 hba0 K hK
                have hsa0 := hba0.size
                (try simp at hsa0)
                replace HP := Lib.hid (HP.out.trans (hba0.mono HP.out.size))
                (try replace BB := Lib.hid (BB.out.kept hba0))
                (try replace HG := Lib.hid (ms_kept HG.out hba0))
                (try replace HMo := Lib.hid (ms_kept HMo.out hba0))
                go_wp2_with fail
                refine (HTo.out _ _ _ _ (ms_kept HI8.out.r HP.out)).mono ?_
                rintro e wb0 ⟨At, ct, rfl, hm, hc, hbb0⟩
                have hsb0 := hbb0.size
                have HMo := Lib.hid hm; clear hm hc
                replace HP := Lib.hid (HP.out.trans (hbb0.mono HP.out.size))
                (try replace BB := Lib.hid (BB.out.kept hbb0))
                go_wp2
                refine ⟨xs_, ?_⟩
                refine anyB_two (i := 2) (j := 8) (by kernel_rfl) rfl rfl rfl rfl ?_ ?_
                · skip
                  intro wa1 hba1 K hK
                  have hsa1 := hba1.size
                  (try simp at hsa1)
                  replace HP := Lib.hid (HP.out.trans (hba1.mono HP.out.size))
                  (try replace BB := Lib.hid (BB.out.kept hba1))
                  (try replace HG := Lib.hid (ms_kept HG.out hba1))
                  (try replace HMo := Lib.hid (ms_kept HMo.out hba1))
                  go_wp2_with fail
                  refine (HOo.out _ _ _ _ HMo.out).mono ?_
                  rintro e wb1 ⟨Ao, co, rfl, hm, hc, hbb1⟩
                  have hsb1 := hbb1.size
                  replace HMo := Lib.hid hm; have HCo2 := Lib.hid hc; clear hm hc
                  replace HP := Lib.hid (HP.out.trans (hbb1.mono HP.out.size))
                  (try replace BB := Lib.hid (BB.out.kept hbb1))
                  go_wp2
                  refine ⟨xs_, ?_⟩
                  refine anyB_two (i := 4) (j := 8) (by kernel_rfl) rfl rfl rfl rfl ?_ ?_
                  · skip
                    intro wa2 hba2 K hK
                    have hsa2 := hba2.size
                    (try simp at hsa2)
                    replace HP := Lib.hid (HP.out.trans (hba2.mono HP.out.size))
                    (try replace BB := Lib.hid (BB.out.kept hba2))
                    (try replace HG := Lib.hid (ms_kept HG.out hba2))
                    (try replace HMo := Lib.hid (ms_kept HMo.out hba2))
                    go_wp2_with fail
                    refine (HS0.out _ _ _ HMo.out HCo2.out).mono ?_
                    rintro e wb2 ⟨g, rfl, hg9, hbb2⟩
                    have hsb2 := hbb2.size
                    clear HMo HCo2; have HG := Lib.hid hg9; clear hg9
                    replace HP := Lib.hid (HP.out.trans (hbb2.mono HP.out.size))
                    (try replace BB := Lib.hid (BB.out.kept hbb2))
                    go_wp2
                    refine ⟨xs_, ?_⟩
                    (refine anyB_quiet_at (by kernel_rfl) calm_panic xs_ 3 [5, 6, 7] _ _ (by kernel_rfl) (by decide +kernel) ?_; simp only [pickB, List.filterMap_cons, List.filterMap_nil, List.getElem?_toArray, List.getElem?_cons_zero, List.getElem?_cons_succ]; (repeat (first | ((first | (with_reducible refine quietL_plain rfl (fun K hK => ?_)) | (with_reducible refine quietL_want (by with_unfolding_all rfl) (fun K hK => ?_))); (apply Exists.intro; refine ⟨fun wx hx => ?_, ?_⟩; (· (have hcx := ifs_ex hx); simp [go_sem, *, ↓IntWalk.iteOmega] <;> (first | rfl | exact ⟨rfl, rfl⟩ | fail)); (simp only [Act.put, List.setIfInBounds_toArray, List.set_cons_zero, List.set_cons_succ]; refine hK _ ?_; clear hK K))) | ((with_reducible refine quietL_skip (by with_unfolding_all rfl) ?_); simp only [Act.put, List.setIfInBounds_toArray, List.set_cons_zero, List.set_cons_succ]))); refine quietL_nil ?_)
                    refine anyB_one (i := 8) (by kernel_rfl) rfl rfl ?_
                    intro wh hbh K hK
                    have hsh := hbh.size
                    (try simp at hsh)
                    replace HP := Lib.hid (HP.out.trans (hbh.mono HP.out.size))
                    (try replace HG := Lib.hid (ms_kept HG.out hbh))
                    (try replace HMo := Lib.hid (ms_kept HMo.out hbh))
                    have hbx : Below wh.heap.size wh (wh.alloc (.cells #[.slice none 0 0, .int .i64 0, .int .i64 0, .int .i64 0, .int .i64 0] 35)) := (Below.refl _ _).alloc (Nat.le_refl _) _
                    replace HP := Lib.hid (HP.out.trans (hbx.mono HP.out.size))
                    (try replace HG := Lib.hid (ms_kept HG.out hbx))
                    (try replace HMo := Lib.hid (ms_kept HMo.out hbx))
                    have BB := Lib.hid (Blk.new wh 35 #[.slice none 0 0, .int .i64 0, .int .i64 0, .int .i64 0, .int .i64 0])
                    have hwh := HP.out.size
                    clear hbx
                    go_wp2
                    refine ⟨xs_, ?_⟩
                    refine anyB_one (i := 9) (by kernel_rfl) rfl rfl ?_
                    intro wi hbi K hK
                    have hsi := hbi.size
                    (try simp at hsi)
                    replace HP := Lib.hid (HP.out.trans (hbi.mono HP.out.size))
                    replace BB := Lib.hid (BB.out.kept hbi)
                    (try replace HG := Lib.hid (ms_kept HG.out hbi))
                    (try replace HMo := Lib.hid (ms_kept HMo.out hbi))
                    have cB := BB.out.cell
                    have fB := BB.out.frozen
                    have lB := BB.out.lt
                    go_wp2
                    refine ⟨xs_, ?_⟩
                    have BC := Lib.hid (put5_blk (v0 := .slice (some ⟨g, 0, none⟩) n n) (v1 := .int .i64 a.lo) (v2 := .int .i64 a.hi) (v3 := .int .i64 a.cur) (v4 := .int .i64 a.lim) BB.out)
                    have HPc := Lib.hid (put5_low (b := wh.heap.size) (v0 := .slice (some ⟨g, 0, none⟩) n n) (v1 := .int .i64 a.lo) (v2 := .int .i64 a.hi) (v3 := .int .i64 a.cur) (v4 := .int .i64 a.lim) HP.out (by omega))
                    (try replace HG := Lib.hid (ms_put5 (b := wh.heap.size) (v0 := .slice (some ⟨g, 0, none⟩) n n) (v1 := .int .i64 a.lo) (v2 := .int .i64 a.hi) (v3 := .int .i64 a.cur) (v4 := .int .i64 a.lim) HG.out BB.out))
                    clear cB fB lB HP BB
                    refine anyB_one (i := 10) (by kernel_rfl) rfl rfl ?_
                    intro wj hbj K hK
                    have hsj := hbj.size
                    (try simp at hsj)
                    go_wp2
                    refine ⟨xs_, ?_⟩
                    refine anyB_end (by kernel_rfl) ?_
                    intro wk hbk
                    have hsk := hbk.size
                    simp only [Calm]
                    have BE := Lib.hid ((BC.out.kept hbj).kept hbk)
                    have HPe := Lib.hid ((HPc.out.trans (hbj.mono HPc.out.size)).trans (hbk.mono (by have := HPc.out.size; omega)))
                    (try replace HG := Lib.hid (ms_kept (ms_kept HG.out hbj) hbk))
                    go_wp2_with fail
                    go_meet
                    case rel => exact ⟨wh.heap.size, g, rfl, rfl, BE.out, HG.out, HPe.out⟩
                  · skip
                    intro wh hbh K hK
                    have hsh := hbh.size
                    (try simp at hsh)
                    replace HP := Lib.hid (HP.out.trans (hbh.mono HP.out.size))
                    (try replace HG := Lib.hid (ms_kept HG.out hbh))
                    (try replace HMo := Lib.hid (ms_kept HMo.out hbh))
                    have hbx : Below wh.heap.size wh (wh.alloc (.cells #[.slice none 0 0, .int .i64 0, .int .i64 0, .int .i64 0, .int .i64 0] 35)) := (Below.refl _ _).alloc (Nat.le_refl _) _
                    replace HP := Lib.hid (HP.out.trans (hbx.mono HP.out.size))
                    (try replace HG := Lib.hid (ms_kept HG.out hbx))
                    (try replace HMo := Lib.hid (ms_kept HMo.out hbx))
                    have BB := Lib.hid (Blk.new wh 35 #[.slice none 0 0, .int .i64 0, .int .i64 0, .int .i64 0, .int .i64 0])
                    have hwh := HP.out.size
                    clear hbx
                    go_wp2
                    refine ⟨xs_, ?_⟩
                    refine anyB_one (i := 4) (by kernel_rfl) rfl rfl ?_
                    intro wa2 hba2 K hK
                    have hsa2 := hba2.size
                    (try simp at hsa2)
                    replace HP := Lib.hid (HP.out.trans (hba2.mono HP.out.size))
                    (try replace BB := Lib.hid (BB.out.kept hba2))
                    (try replace HG := Lib.hid (ms_kept HG.out hba2))
                    (try replace HMo := Lib.hid (ms_kept HMo.out hba2))
                    go_wp2_with fail
                    refine (HS0.out _ _ _ HMo.out HCo2.out).mono ?_
                    rintro e wb2 ⟨g, rfl, hg9, hbb2⟩
                    have hsb2 := hbb2.size
                    clear HMo HCo2; have HG := Lib.hid hg9; clear hg9
                    replace HP := Lib.hid (HP.out.trans (hbb2.mono HP.out.size))
                    (try replace BB := Lib.hid (BB.out.kept hbb2))
                    go_wp2
                    refine ⟨xs_, ?_⟩
                    (refine anyB_quiet_at (by kernel_rfl) calm_panic xs_ 2 [5, 6, 7] _ _ (by kernel_rfl) (by decide +kernel) ?_; simp only [pickB, List.filterMap_cons, List.filterMap_nil, List.getElem?_toArray, List.getElem?_cons_zero, List.getElem?_cons_succ]; (repeat (first | ((first | (with_reducible refine quietL_plain rfl (fun K hK => ?_)) | (with_reducible refine quietL_want (by with_unfolding_all rfl) (fun K hK => ?_))); (apply Exists.intro; refine ⟨fun wx hx => ?_, ?_⟩; (· (have hcx := ifs_ex hx); simp [go_sem, *, ↓IntWalk.iteOmega] <;> (first | rfl | exact ⟨rfl, rfl⟩ | fail)); (simp only [Act.put, List.setIfInBounds_toArray, List.set_cons_zero, List.set_cons_succ]; refine hK _ ?_; clear hK K))) | ((with_reducible refine quietL_skip (by with_unfolding_all rfl) ?_); simp only [Act.put, List.setIfInBounds_toArray, List.set_cons_zero, List.set_cons_succ]))); refine quietL_nil ?_)
                    refine anyB_one (i := 9) (by kernel_rfl) rfl rfl ?_
                    intro wi hbi K hK
                    have hsi := hbi.size
                    (try simp at hsi)
                    replace HP := Lib.hid (HP.out.trans (hbi.mono HP.out.size))
                    replace BB := Lib.hid (BB.out.kept hbi)
                    (try replace HG := Lib.hid (ms_kept HG.out hbi))
                    (try replace HMo := Lib.hid (ms_kept HMo.out hbi))
                    have cB := BB.out.cell
                    have fB := BB.out.frozen
                    have lB := BB.out.lt
                    go_wp2
                    refine ⟨xs_, ?_⟩
                    have BC := Lib.hid (put5_blk (v0 := .slice (some ⟨g, 0, none⟩) n n) (v1 := .int .i64 a.lo) (v2 := .int .i64 a.hi) (v3 := .int .i64 a.cur) (v4 := .int .i64 a.lim) BB.out)
                    have HPc := Lib.hid (put5_low (b := wh.heap.size) (v0 := .slice (some ⟨g, 0, none⟩) n n) (v1 := .int .i64 a.lo) (v2 := .int .i64 a.hi) (v3 := .int .i64 a.cur) (v4 := .int .i64 a.lim) HP.out (by omega))
                    (try replace HG := Lib.hid (ms_put5 (b := wh.heap.size) (v0 := .slice (some ⟨g, 0, none⟩) n n) (v1 := .int .i64 a.lo) (v2 := .int .i64 a.hi) (v3 := .int .i64 a.cur) (v4 := .int .i64 a.lim) HG.out BB.out))
                    clear cB fB lB HP BB
                    refine anyB_one (i := 10) (by kernel_rfl) rfl rfl ?_
                    intro wj hbj K hK
                    have hsj := hbj.size
                    (try simp at hsj)
                    go_wp2
                    refine ⟨xs_, ?_⟩
                    refine anyB_end (by kernel_rfl) ?_
                    intro wk hbk
                    have hsk := hbk.size
                    simp only [Calm]
                    have BE := Lib.hid ((BC.out.kept hbj).kept hbk)
                    have HPe := Lib.hid ((HPc.out.trans (hbj.mono HPc.out.size)).trans (hbk.mono (by have := HPc.out.size; omega)))
                    (try replace HG := Lib.hid (ms_kept (ms_kept HG.out hbj) hbk))
                    go_wp2_with fail
                    go_meet
                    case rel => exact ⟨wh.heap.size, g, rfl, rfl, BE.out, HG.out, HPe.out⟩
                · skip
                  intro wh hbh K hK
                  have hsh := hbh.size
                  (try simp at hsh)
                  replace HP := Lib.hid (HP.out.trans (hbh.mono HP.out.size))
                  (try replace HG := Lib.hid (ms_kept HG.out hbh))
                  (try replace HMo := Lib.hid (ms_kept HMo.out hbh))
                  have hbx : Below wh.heap.size wh (wh.alloc (.cells #[.slice none 0 0, .int .i64 0, .int .i64 0, .int .i64 0, .int .i64 0] 35)) := (Below.refl _ _).alloc (Nat.le_refl _) _
                  replace HP := Lib.hid (HP.out.trans (hbx.mono HP.out.size))
                  (try replace HG := Lib.hid (ms_kept HG.out hbx))
                  (try replace HMo := Lib.hid (ms_kept HMo.out hbx))
                  have BB := Lib.hid (Blk.new wh 35 #[.slice none 0 0, .int .i64 0, .int .i64 0, .int .i64 0, .int .i64 0])
                  have hwh := HP.out.size
                  clear hbx
                  go_wp2
                  refine ⟨xs_, ?_⟩
                  refine anyB_one (i := 2) (by kernel_rfl) rfl rfl ?_
                  intro wa1 hba1 K hK
                  have hsa1 := hba1.size
                  (try simp at hsa1)
                  replace HP := Lib.hid (HP.out.trans (hba1.mono HP.out.size))
                  (try replace BB := Lib.hid (BB.out.kept hba1))
                  (try replace HG := Lib.hid (ms_kept HG.out hba1))
                  (try replace HMo := Lib.hid (ms_kept HMo.out hba1))
                  go_wp2_with fail
                  refine (HOo.out _ _ _ _ HMo.out).mono ?_
                  rintro e wb1 ⟨Ao, co, rfl, hm, hc, hbb1⟩
                  have hsb1 := hbb1.size
                  replace HMo := Lib.hid hm; have HCo2 := Lib.hid hc; clear hm hc
                  replace HP := Lib.hid (HP.out.trans (hbb1.mono HP.out.size))
                  (try replace BB := Lib.hid (BB.out.kept hbb1))
                  go_wp2
                  refine ⟨xs_, ?_⟩
                  refine anyB_one (i := 4) (by kernel_rfl) rfl rfl ?_
                  intro wa2 hba2 K hK
                  have hsa2 := hba2.size
                  (try simp at hsa2)
                  replace HP := Lib.hid (HP.out.trans (hba2.mono HP.out.size))
                  (try replace BB := Lib.hid (BB.out.kept hba2))
                  (try replace HG := Lib.hid (ms_kept HG.out hba2))
                  (try replace HMo := Lib.hid (ms_kept HMo.out hba2))
                  go_wp2_with fail
                  refine (HS0.out _ _ _ HMo.out HCo2.out).mono ?_
                  rintro e wb2 ⟨g, rfl, hg9, hbb2⟩
                  have hsb2 := hbb2.size
                  clear HMo HCo2; have HG := Lib.hid hg9; clear hg9
                  replace HP := Lib.hid (HP.out.trans (hbb2.mono HP.out.size))
                  (try replace BB := Lib.hid (BB.out.kept hbb2))
                  go_wp2
                  refine ⟨xs_, ?_⟩
                  (refine anyB_quiet_at (by kernel_rfl) calm_panic xs_ 2 [5, 6, 7] _ _ (by kernel_rfl) (by decide +kernel) ?_; simp only [pickB, List.filterMap_cons, List.filterMap_nil, List.getElem?_toArray, List.getElem?_cons_zero, List.getElem?_cons_succ]; (repeat (first | ((first | (with_reducible refine quietL_plain rfl (fun K hK => ?_)) | (with_reducible refine quietL_want (by with_unfolding_all rfl) (fun K hK => ?_))); (apply Exists.intro; refine ⟨fun wx hx => ?_, ?_⟩; (· (have hcx := ifs_ex hx); simp [go_sem, *, ↓IntWalk.iteOmega] <;> (first | rfl | exact ⟨rfl, rfl⟩ | fail)); (simp only [Act.put, List.setIfInBounds_toArray, List.set_cons_zero, List.set_cons_succ]; refine hK _ ?_; clear hK K))) | ((with_reducible refine quietL_skip (by with_unfolding_all rfl) ?_); simp only [Act.put, List.setIfInBounds_toArray, List.set_cons_zero, List.set_cons_succ]))); refine quietL_nil ?_)
                  refine anyB_one (i := 9) (by kernel_rfl) rfl rfl ?_
                  intro wi hbi K hK
                  have hsi := hbi.size
                  (try simp at hsi)
                  replace HP := Lib.hid (HP.out.trans (hbi.mono HP.out.size))
                  replace BB := Lib.hid (BB.out.kept hbi)
                  (try replace HG := Lib.hid (ms_kept HG.out hbi))
                  (try replace HMo := Lib.hid (ms_kept HMo.out hbi))
                  have cB := BB.out.cell
                  have fB := BB.out.frozen
                  have lB := BB.out.lt
                  go_wp2
                  refine ⟨xs_, ?_⟩
                  have BC := Lib.hid (put5_blk (v0 := .slice (some ⟨g, 0, none⟩) n n) (v1 := .int .i64 a.lo) (v2 := .int .i64 a.hi) (v3 := .int .i64 a.cur) (v4 := .int .i64 a.lim) BB.out)
                  have HPc := Lib.hid (put5_low (b := wh.heap.size) (v0 := .slice (some ⟨g, 0, none⟩) n n) (v1 := .int .i64 a.lo) (v2 := .int .i64 a.hi) (v3 := .int .i64 a.cur) (v4 := .int .i64 a.lim) HP.out (by omega))
                  (try replace HG := Lib.hid (ms_put5 (b := wh.heap.size) (v0 := .slice (some ⟨g, 0, none⟩) n n) (v1 := .int .i64 a.lo) (v2 := .int .i64 a.hi) (v3 := .int .i64 a.cur) (v4 := .int .i64 a.lim) HG.out BB.out))
                  clear cB fB lB HP BB
                  refine anyB_one (i := 10) (by kernel_rfl) rfl rfl ?_
                  intro wj hbj K hK
                  have hsj := hbj.size
                  (try simp at hsj)
                  go_wp2
                  refine ⟨xs_, ?_⟩
                  refine anyB_end (by kernel_rfl) ?_
                  intro wk hbk
                  have hsk := hbk.size
                  simp only [Calm]
                  have BE := Lib.hid ((BC.out.kept hbj).kept hbk)
                  have HPe := Lib.hid ((HPc.out.trans (hbj.mono HPc.out.size)).trans (hbk.mono (by have := HPc.out.size; omega)))
                  (try replace HG := Lib.hid (ms_kept (ms_kept HG.out hbj) hbk))
                  go_wp2_with fail
                  go_meet
                  case rel => exact ⟨wh.heap.size, g, rfl, rfl, BE.out, HG.out, HPe.out⟩
              · skip
                intro wh hbh K hK
                have hsh := hbh.size
                (try simp at hsh)
                replace HP := Lib.hid (HP.out.trans (hbh.mono HP.out.size))
                (try replace HG := Lib.hid (ms_kept HG.out hbh))
                (try replace HMo := Lib.hid (ms_kept HMo.out hbh))
                have hbx : Below wh.heap.size wh (wh.alloc (.cells #[.slice none 0 0, .int .i64 0, .int .i64 0, .int .i64 0, .int .i64 0] 35)) := (Below.refl _ _).alloc (Nat.le_refl _) _
                replace HP := Lib.hid (HP.out.trans (hbx.mono HP.out.size))
                (try replace HG := Lib.hid (ms_kept HG.out hbx))
                (try replace HMo := Lib.hid (ms_kept HMo.out hbx))
                have BB := Lib.hid (Blk.new wh 35 #[.slice none 0 0, .int .i64 0, .int .i64 0, .int .i64 0, .int .i64 0])
                have hwh := HP.out.size
                clear hbx
                go_wp2
                refine ⟨xs_, ?_⟩
                refine anyB_one (i := 1) (by kernel_rfl) rfl rfl ?_
                intro wa0 hba0 K hK
                have hsa0 := hba0.size
                (try simp at hsa0)
                replace HP := Lib.hid (HP.out.trans (hba0.mono HP.out.size))
                (try replace BB := Lib.hid (BB.out.kept hba0))
                (try replace HG := Lib.hid (ms_kept HG.out hba0))
                (try replace HMo := Lib.hid (ms_kept HMo.out hba0))
                go_wp2_with fail
                refine (HTo.out _ _ _ _ (ms_kept HI8.out.r HP.out)).mono ?_
                rintro e wb0 ⟨At, ct, rfl, hm, hc, hbb0⟩
                have hsb0 := hbb0.size
                have HMo := Lib.hid hm; clear hm hc
                replace HP := Lib.hid (HP.out.trans (hbb0.mono HP.out.size))
                (try replace BB := Lib.hid (BB.out.kept hbb0))
                go_wp2
                refine ⟨xs_, ?_⟩
                refine anyB_one (i := 2) (by kernel_rfl) rfl rfl ?_
                intro wa1 hba1 K hK
                have hsa1 := hba1.size
                (try simp at hsa1)
                replace HP := Lib.hid (HP.out.trans (hba1.mono HP.out.size))
                (try replace BB := Lib.hid (BB.out.kept hba1))
                (try replace HG := Lib.hid (ms_kept HG.out hba1))
                (try replace HMo := Lib.hid (ms_kept HMo.out hba1))
                go_wp2_with fail
                refine (HOo.out _ _ _ _ HMo.out).mono ?_
                rintro e wb1 ⟨Ao, co, rfl, hm, hc, hbb1⟩
                have hsb1 := hbb1.size
                replace HMo := Lib.hid hm; have HCo2 := Lib.hid hc; clear hm hc
                replace HP := Lib.hid (HP.out.trans (hbb1.mono HP.out.size))
                (try replace BB := Lib.hid (BB.out.kept hbb1))
                go_wp2
                refine ⟨xs_, ?_⟩
                refine anyB_one (i := 4) (by kernel_rfl) rfl rfl ?_
                intro wa2 hba2 K hK
                have hsa2 := hba2.size
                (try simp at hsa2)
                replace HP := Lib.hid (HP.out.trans (hba2.mono HP.out.size))
                (try replace BB := Lib.hid (BB.out.kept hba2))
                (try replace HG := Lib.hid (ms_kept HG.out hba2))
                (try replace HMo := Lib.hid (ms_kept HMo.out hba2))
                go_wp2_with fail
                refine (HS0.out _ _ _ HMo.out HCo2.out).mono ?_
                rintro e wb2 ⟨g, rfl, hg9, hbb2⟩
                have hsb2 := hbb2.size
                clear HMo HCo2; have HG := Lib.hid hg9; clear hg9
                replace HP := Lib.hid (HP.out.trans (hbb2.mono HP.out.size))
                (try replace BB := Lib.hid (BB.out.kept hbb2))
                go_wp2
                refine ⟨xs_, ?_⟩
                (refine anyB_quiet_at (by kernel_rfl) calm_panic xs_ 2 [5, 6, 7] _ _ (by kernel_rfl) (by decide +kernel) ?_; simp only [pickB, List.filterMap_cons, List.filterMap_nil, List.getElem?_toArray, List.getElem?_cons_zero, List.getElem?_cons_succ]; (repeat (first | ((first | (with_reducible refine quietL_plain rfl (fun K hK => ?_)) | (with_reducible refine quietL_want (by with_unfolding_all rfl) (fun K hK => ?_))); (apply Exists.intro; refine ⟨fun wx hx => ?_, ?_⟩; (· (have hcx := ifs_ex hx); simp [go_sem, *, ↓IntWalk.iteOmega] <;> (first | rfl | exact ⟨rfl, rfl⟩ | fail)); (simp only [Act.put, List.setIfInBounds_toArray, List.set_cons_zero, List.set_cons_succ]; refine hK _ ?_; clear hK K))) | ((with_reducible refine quietL_skip (by with_unfolding_all rfl) ?_); simp only [Act.put, List.setIfInBounds_toArray, List.set_cons_zero, List.set_cons_succ]))); refine quietL_nil ?_)
                refine anyB_one (i := 9) (by kernel_rfl) rfl rfl ?_
                intro wi hbi K hK
                have hsi := hbi.size
                (try simp at hsi)
                replace HP := Lib.hid (HP.out.trans (hbi.mono HP.out.size))
                replace BB := Lib.hid (BB.out.kept hbi)
                (try replace HG := Lib.hid (ms_kept HG.out hbi))
                (try replace HMo := Lib.hid (ms_kept HMo.out hbi))
                have cB := BB.out.cell
                have fB := BB.out.frozen
                have lB := BB.out.lt
                go_wp2
                refine ⟨xs_, ?_⟩
                have BC := Lib.hid (put5_blk (v0 := .slice (some ⟨g, 0, none⟩) n n) (v1 := .int .i64 a.lo) (v2 := .int .i64 a.hi) (v3 := .int .i64 a.cur) (v4 := .int .i64 a.lim) BB.out)
                have HPc := Lib.hid (put5_low (b := wh.heap.size) (v0 := .slice (some ⟨g, 0, none⟩) n n) (v1 := .int .i64 a.lo) (v2 := .int .i64 a.hi) (v3 := .int .i64 a.cur) (v4 := .int .i64 a.lim) HP.out (by omega))
                (try replace HG := Lib.hid (ms_put5 (b := wh.heap.size) (v0 := .slice (some ⟨g, 0, none⟩) n n) (v1 := .int .i64 a.lo) (v2 := .int .i64 a.hi) (v3 := .int .i64 a.cur) (v4 := .int .i64 a.lim) HG.out BB.out))
                clear cB fB lB HP BB
                refine anyB_one (i := 10) (by kernel_rfl) rfl rfl ?_
                intro wj hbj K hK
                have hsj := hbj.size
                (try simp at hsj)
                go_wp2
                refine ⟨xs_, ?_⟩
                refine anyB_end (by kernel_rfl) ?_
                intro wk hbk
                have hsk := hbk.size
                simp only [Calm]
                have BE := Lib.hid ((BC.out.kept hbj).kept hbk)
                have HPe := Lib.hid ((HPc.out.trans (hbj.mono HPc.out.size)).trans (hbk.mono (by have := HPc.out.size; omega)))
                (try replace HG := Lib.hid (ms_kept (ms_kept HG.out hbj) hbk))
                go_wp2_with fail
                go_meet
                case rel => exact ⟨wh.heap.size, g, rfl, rfl, BE.out, HG.out, HPe.out⟩
          rename World => w9
          obtain ⟨b12, g, rfl, rfl, h12, hm, hb⟩ := hcut
          have HI9 := Lib.hid (HI8.out.kept hb)
          have H12 := Lib.hid h12
          have HG := Lib.hid hm
          clear hb h12 hm HS0 HI8 cN lN cO lO HOx
          have c12 := H12.out.cell
          have l12 := H12.out.lt
          go_wp2_with fail
          refine (HTo.out _ _ _ _ HG.out).mono ?_
          rintro e wa ⟨Ao, co, rfl, hm, _, hb⟩
          have HIa := Lib.hid (HI9.out.kept hb)
          have H12a := Lib.hid (H12.out.kept hb)
          have HGa := Lib.hid (ms_kept HG.out hb)
          have HMa := Lib.hid hm
          clear hm hb c12 l12 HI9 H12 HG
          go_wp2_with fail
          refine (HCk.out _ _ _ HMa.out).mono ?_
          rintro e wb ⟨rfl, hb⟩
          have HIb := Lib.hid (HIa.out.kept hb)
          have H12b := Lib.hid (H12a.out.kept hb)
          have HGb := Lib.hid (ms_kept HGa.out hb)
          clear hb HIa H12a HGa HMa
          have c12 := H12b.out.cell
          have l12 := H12b.out.lt
          have cN := HIb.out.bN.cell
          have lN := HIb.out.bN.lt
          have fN := HIb.out.bN.frozen
          have hsk := HIb.out.lk.size
          have hlt9 := HIb.out.lt
          have HR : Hid (KwI w w6 w6.heap.size A n c a (some ⟨g, 0, none⟩) n (stepA b o).m (((((wb.setCell ⟨w6.heap.size, 0, none⟩ (.slice (some ⟨g, 0, none⟩) n n)).setCell ⟨w6.heap.size, 1, none⟩ (.int .i64 a.lo)).setCell ⟨w6.heap.size, 2, none⟩ (.int .i64 a.hi)).setCell ⟨w6.heap.size, 3, none⟩ (.int .i64 a.cur)).setCell ⟨w6.heap.size, 4, none⟩ (.int .i64 a.lim))) := Lib.hid (by
            rw [HMe.out]
            exact ⟨put5_far HIb.out.bA (by omega), put5_blk HIb.out.bN, ms_putA HGb.out HIb.out.bN, Nat.le_refl _, put5_low HIb.out.low (by omega), put5_low HIb.out.lk (Nat.le_refl _), hlt9, Nat.le_refl _⟩)
          go_wp2_with fail
          go_roundw
          case rel => exact ⟨i + 1, stepA b o, some ⟨g, 0, none⟩, n, by omega, by go_num, Lib.hid HNs.out, HR.out⟩
          case measure => simp [intOf]; omega
    rename World => w7
    have hb := hcut
    clear hcut HFw HNb
    clear cHA lHA
    have hs7 := hb.size
    have HL' := Lib.hid (HL.out.trans (hb.mono HL.out.size)); clear HL; have HL := HL'; clear HL'
    have HA' := Lib.hid (HA.out.kept hb); clear HA; have HA := HA'; clear HA'
    clear hb
    have cHA := HA.out.cell
    have lHA := HA.out.lt
    as_aux_lemma =>
      obtain ⟨o, hoe⟩ : ∃ o, l[0] = o := ⟨_, rfl⟩
      have hrs := HRs0.out
      have hrv := HRv0.out
      have hmE := HmE.out
      have eA2 := HeA.out
      clear HRs0 HRv0 HmE HeA
      rw [hoe] at HCh HCm HLm HRs HLo hrs hrv hL1 hL2 hon
      have HOe := Lib.hid hoe
      clear hoe
      obtain ⟨z0, z1⟩ := HLo.out _ HL.out
      have hb0w : b0 < w7.heap.size := by have := HL.out.size; omega
      have hn2p : (0 : Int) < (n2 : Int) := by omega
      subst eA2
      obtain ⟨ce, hce⟩ : ∃ ce, choE a o = ce := ⟨_, rfl⟩
      obtain ⟨L1, hL1e⟩ : ∃ L, choL a o = L := ⟨_, rfl⟩
      obtain ⟨L2, hL2e⟩ : ∃ L, choL (mirA a) ⟨o.n, -o.c⟩ = L := ⟨_, rfl⟩
      rw [hce, hL1e] at HCh
      rw [hmE] at hL2e HLm hL2
      rw [hce, hL2e] at HCm
      rw [hL1e] at hL1
      rw [hL2e] at hL2
      rw [hL2e, hL1e] at HLm
      clear hce hL1e hL2e hmE
      have HRe := Lib.hid hrs
      have HRv := Lib.hid hrv
      obtain ⟨re, hre⟩ : ∃ re, resE a o.n = re := ⟨_, rfl⟩
      obtain ⟨rv, hrv2⟩ : ∃ rv, resV a o.n = rv := ⟨_, rfl⟩
      rw [hre] at HRe HRs HRv
      rw [hrv2] at HRs HRv
      clear hre hrv2 hrs hrv
      generalize usL a = us at *
      (try dsimp only at HCm)
      have ho0e : o0 + 0 * 2 = o0 := by omega
      rw [ho0e] at z0 z1
      clear ho0e
      go_upto_region 20 with fail
      refine wp_world ?_
      intro w8 hW
      have hb : Below w7.heap.size w7 w8 := by rw [hW]; exact (Below.refl _ _).alloc (Nat.le_refl _) _
      have HO := Lib.hid (show Blk w8 w7.heap.size 68 #[.int .i64 o.n, .int .i64 o.c] from by rw [hW]; exact Blk.new _ _ _)
      obtain ⟨bHO, hbHO⟩ : ∃ b, w7.heap.size = b := ⟨_, rfl⟩
      rw [hbHO] at HO ⊢
      clear hbHO hW
      clear cHA lHA
      have hs8 := hb.size
      have HL' := Lib.hid (HL.out.trans (hb.mono HL.out.size)); clear HL; have HL := HL'; clear HL'
      have HA' := Lib.hid (HA.out.kept hb); clear HA; have HA := HA'; clear HA'
      clear hb
      have cHA := HA.out.cell
      have lHA := HA.out.lt
      have cHO := HO.out.cell
      have lHO := HO.out.lt
      (try clear z0 z1 hb0w)
      go_wp2_with fail
      refine (HOw.out _ HL.out).mono ?_
      rintro e w9 ⟨A9, c9, rfl, hm, hc, hb⟩
      have HM9 := Lib.hid hm; have HC9 := Lib.hid hc; clear hm hc
      clear cHA lHA cHO lHO
      have hs9 := hb.size
      have HL' := Lib.hid (HL.out.trans (hb.mono HL.out.size)); clear HL; have HL := HL'; clear HL'
      have HA' := Lib.hid (HA.out.kept hb); clear HA; have HA := HA'; clear HA'
      have HO' := Lib.hid (HO.out.kept hb); clear HO; have HO := HO'; clear HO'
      clear hb
      have cHA := HA.out.cell
      have lHA := HA.out.lt
      have cHO := HO.out.cell
      have lHO := HO.out.lt
      go_wp2_with fail
      refine (HMi.out _ _ _ HM9.out HC9.out).mono ?_
      rintro e w10 ⟨g1, rfl, hg, _, hb⟩
      clear HM9 HC9
      have HGm := Lib.hid (show Blk w10 g1 73 (mds M1).toArray from hg)
      clear hg
      clear cHA lHA cHO lHO
      have hs10 := hb.size
      have HL' := Lib.hid (HL.out.trans (hb.mono HL.out.size)); clear HL; have HL := HL'; clear HL'
      have HA' := Lib.hid (HA.out.kept hb); clear HA; have HA := HA'; clear HA'
      have HO' := Lib.hid (HO.out.kept hb); clear HO; have HO := HO'; clear HO'
      clear hb
      have cHA := HA.out.cell
      have lHA := HA.out.lt
      have cHO := HO.out.cell
      have lHO := HO.out.lt
      go_upto_region 21 with fail
      refine wp_world ?_
      intro w11 hW
      have hb : Below w10.heap.size w10 w11 := by rw [hW]; exact (Below.refl _ _).alloc (Nat.le_refl _) _
      have HX := Lib.hid (show Blk w11 w10.heap.size 35 #[.slice (some ⟨g1, 0, none⟩) n n, .int .i64 a.lo, .int .i64 a.hi, .int .i64 a.cur, .int .i64 a.lim] from by rw [hW]; exact Blk.new _ _ _)
      obtain ⟨bHX, hbHX⟩ : ∃ b, w10.heap.size = b := ⟨_, rfl⟩
      rw [hbHX] at HX ⊢
      clear hbHX hW
      clear cHA lHA cHO lHO
      have hs11 := hb.size
      have HL' := Lib.hid (HL.out.trans (hb.mono HL.out.size)); clear HL; have HL := HL'; clear HL'
      have HA' := Lib.hid (HA.out.kept hb); clear HA; have HA := HA'; clear HA'
      have HO' := Lib.hid (HO.out.kept hb); clear HO; have HO := HO'; clear HO'
      have HGm' := Lib.hid (HGm.out.kept hb); clear HGm; have HGm := HGm'; clear HGm'
      clear hb
      have cHA := HA.out.cell
      have lHA := HA.out.lt
      have cHO := HO.out.cell
      have lHO := HO.out.lt
      have cHX := HX.out.cell
      have lHX := HX.out.lt
      have HEl := Lib.hid HEn.out.2.2.2
      go_wp2_with fail
      refine (HTo.out _ _ _ _ ((BlkArm.at (b := ⟨M1, 0, 0, 0, 0⟩) HGm.out hM1l).more HGm.out.lt)).mono ?_
      rintro e w12 ⟨A12, c12, rfl, hm, hc, hb⟩
      have HM12 := Lib.hid hm; have HC12 := Lib.hid hc; clear hm hc
      clear cHA lHA cHO lHO cHX lHX
      have hs12 := hb.size
      have HL' := Lib.hid (HL.out.trans (hb.mono HL.out.size)); clear HL; have HL := HL'; clear HL'
      have HA' := Lib.hid (HA.out.kept hb); clear HA; have HA := HA'; clear HA'
      have HO' := Lib.hid (HO.out.kept hb); clear HO; have HO := HO'; clear HO'
      have HGm' := Lib.hid (HGm.out.kept hb); clear HGm; have HGm := HGm'; clear HGm'
      have HX' := Lib.hid (HX.out.kept hb); clear HX; have HX := HX'; clear HX'
      clear hb
      have cHA := HA.out.cell
      have lHA := HA.out.lt
      have cHO := HO.out.cell
      have lHO := HO.out.lt
      have cHX := HX.out.cell
      have lHX := HX.out.lt
      go_wp2_with fail
      refine (HOo.out _ _ _ _ HM12.out).mono ?_
      rintro e w13 ⟨A13, c13, rfl, hm, hc, hb⟩
      have HM13 := Lib.hid hm; have HC13 := Lib.hid hc; clear hm hc; clear HM12 HC12
      clear cHA lHA cHO lHO cHX lHX
      have hs13 := hb.size
      have HL' := Lib.hid (HL.out.trans (hb.mono HL.out.size)); clear HL; have HL := HL'; clear HL'
      have HA' := Lib.hid (HA.out.kept hb); clear HA; have HA := HA'; clear HA'
      have HO' := Lib.hid (HO.out.kept hb); clear HO; have HO := HO'; clear HO'
      have HGm' := Lib.hid (HGm.out.kept hb); clear HGm; have HGm := HGm'; clear HGm'
      have HX' := Lib.hid (HX.out.kept hb); clear HX; have HX := HX'; clear HX'
      clear hb
      have cHA := HA.out.cell
      have lHA := HA.out.lt
      have cHO := HO.out.cell
      have lHO := HO.out.lt
      have cHX := HX.out.cell
      have lHX := HX.out.lt
      go_wp2_with fail
      refine (HMj.out _ _ _ HM13.out HC13.out).mono ?_
      rintro e w14 ⟨g2, rfl, hg, hb⟩
      clear HM13 HC13
      have HGa := Lib.hid hg
      clear hg
      clear cHA lHA cHO lHO cHX lHX
      have hs14 := hb.size
      have HL' := Lib.hid (HL.out.trans (hb.mono HL.out.size)); clear HL; have HL := HL'; clear HL'
      have HA' := Lib.hid (HA.out.kept hb); clear HA; have HA := HA'; clear HA'
      have HO' := Lib.hid (HO.out.kept hb); clear HO; have HO := HO'; clear HO'
      have HGm' := Lib.hid (HGm.out.kept hb); clear HGm; have HGm := HGm'; clear HGm'
      have HX' := Lib.hid (HX.out.kept hb); clear HX; have HX := HX'; clear HX'
      clear hb
      have cHA := HA.out.cell
      have lHA := HA.out.lt
      have cHO := HO.out.cell
      have lHO := HO.out.lt
      have cHX := HX.out.cell
      have lHX := HX.out.lt
      go_upto_region 22 with fail
      refine wp_world ?_
      intro w15 hW
      have hb : Below w14.heap.size w14 w15 := by rw [hW]; exact (Below.refl _ _).alloc (Nat.le_refl _) _
      have HY := Lib.hid (show Blk w15 w14.heap.size 35 #[.slice (some ⟨g2, 0, none⟩) n n, .int .i64 a.lo, .int .i64 a.hi, .int .i64 a.cur, .int .i64 a.lim] from by rw [hW]; exact Blk.new _ _ _)
      obtain ⟨bHY, hbHY⟩ : ∃ b, w14.heap.size = b := ⟨_, rfl⟩
      rw [hbHY] at HY ⊢
      clear hbHY hW
      clear cHA lHA cHO lHO cHX lHX
      have hs15 := hb.size
      have HL' := Lib.hid (HL.out.trans (hb.mono HL.out.size)); clear HL; have HL := HL'; clear HL'
      have HA' := Lib.hid (HA.out.kept hb); clear HA; have HA := HA'; clear HA'
      have HO' := Lib.hid (HO.out.kept hb); clear HO; have HO := HO'; clear HO'
      have HGm' := Lib.hid (HGm.out.kept hb); clear HGm; have HGm := HGm'; clear HGm'
      have HX' := Lib.hid (HX.out.kept hb); clear HX; have HX := HX'; clear HX'
      have HGa' := Lib.hid (HGa.out.kept hb); clear HGa; have HGa := HGa'; clear HGa'
      clear hb
      have cHA := HA.out.cell
      have lHA := HA.out.lt
      have cHO := HO.out.cell
      have lHO := HO.out.lt
      have cHX := HX.out.cell
      have lHX := HX.out.lt
      have cHY := HY.out.cell
      have lHY := HY.out.lt
      as_aux_lemma =>
        (refine wp_region_calm [] [0, 1, 2, 3, 4, 5, 6, 7, 9] 4 (by kernel_rfl) rfl (by kernel_rfl) (by kernel_rfl) (by kernel_rfl) ?_; simp only [pickB, List.filterMap_cons, List.filterMap_nil, List.getElem?_toArray, List.getElem?_cons_zero, List.getElem?_cons_succ]; (repeat (first | ((first | (with_reducible refine quietL_plain rfl (fun K hK => ?_)) | (with_reducible refine quietL_want (by with_unfolding_all rfl) (fun K hK => ?_))); (apply Exists.intro; refine ⟨fun wx hx => ?_, ?_⟩; (· (have hcx := ifs_ex hx); simp [go_sem, *, ↓IntWalk.iteOmega] <;> (first | rfl | exact ⟨rfl, rfl⟩ | fail)); (simp only [Act.put, List.setIfInBounds_toArray, List.set_cons_zero, List.set_cons_succ]; refine hK _ ?_; clear hK K))) | ((with_reducible refine quietL_skip (by with_unfolding_all rfl) ?_); simp only [Act.put, List.setIfInBounds_toArray, List.set_cons_zero, List.set_cons_succ]))); refine quietL_nil ?_)
        (refine anyB_one_want (i := 8) (by kernel_rfl) rfl (by kernel_rfl) ?_; intro w16 hb16 K hK; have hs16 := hb16.size; (try simp at hs16); go_wp2_with fail)
        refine (HTo.out _ _ _ _ (ms_kept ((BlkArm.at (b := ⟨a.m, 0, 0, 0, 0⟩) HGa.out HEl.out).more HGa.out.lt) hb16)).mono ?_
        rintro e w17 ⟨At, ct, rfl, hm, _, hb17⟩
        have hs17 := hb17.size
        have HMt := Lib.hid hm; clear hm
        (go_wp2; refine ⟨xs_, ?_⟩)
        (refine anyB_one_want (i := 10) (by kernel_rfl) rfl (by kernel_rfl) ?_; intro w18 hb18 K hK; have hs18 := hb18.size; (try simp at hs18); go_wp2_with fail)
        refine (HSa.out _ _ _ _ _ _ (ms_kept HMt.out hb18) (HMs.out.below (HL.out.trans ((hb16.trans ((hb17.trans (hb18.mono hs17)).mono hs16)).mono HL.out.size)) |>.more (by have := HL.out.size; omega))).mono ?_
        rintro e w19 ⟨rfl, hb19⟩
        have hs19 := hb19.size
        clear HMt
        (go_wp2; refine ⟨xs_, ?_⟩)
        (refine anyB_quiet_at (by kernel_rfl) calm_panic xs_ 0 [11, 12] _ _ (by kernel_rfl) (by decide +kernel) ?_; simp only [pickB, List.filterMap_cons, List.filterMap_nil, List.getElem?_toArray, List.getElem?_cons_zero, List.getElem?_cons_succ]; (repeat (first | ((first | (with_reducible refine quietL_plain rfl (fun K hK => ?_)) | (with_reducible refine quietL_want (by with_unfolding_all rfl) (fun K hK => ?_))); (apply Exists.intro; refine ⟨fun wx hx => ?_, ?_⟩; (· (have hcx := ifs_ex hx); simp [go_sem, *, ↓IntWalk.iteOmega] <;> (first | rfl | exact ⟨rfl, rfl⟩ | fail)); (simp only [Act.put, List.setIfInBounds_toArray, List.set_cons_zero, List.set_cons_succ]; refine hK _ ?_; clear hK K))) | ((with_reducible refine quietL_skip (by with_unfolding_all rfl) ?_); simp only [Act.put, List.setIfInBounds_toArray, List.set_cons_zero, List.set_cons_succ]))); refine quietL_nil ?_)
        (refine anyB_end (by kernel_rfl) ?_; intro w20 hb20; have hs20 := hb20.size; (try simp at hs20); simp only [Calm])
        have hb := hb16.trans ((hb17.trans ((hb18.trans ((hb19.trans ((hb20).mono hs19)).mono hs18)).mono hs17)).mono hs16)
        clear hb16 hb17 hb18 hb19 hb20 hs16 hs17 hs18 hs19 hs20
        clear cHA lHA cHO lHO cHX lHX cHY lHY
        have hs20 := hb.size
        have HL' := Lib.hid (HL.out.trans (hb.mono HL.out.size)); clear HL; have HL := HL'; clear HL'
        have HA' := Lib.hid (HA.out.kept hb); clear HA; have HA := HA'; clear HA'
        have HO' := Lib.hid (HO.out.kept hb); clear HO; have HO := HO'; clear HO'
        have HGm' := Lib.hid (HGm.out.kept hb); clear HGm; have HGm := HGm'; clear HGm'
        have HX' := Lib.hid (HX.out.kept hb); clear HX; have HX := HX'; clear HX'
        have HGa' := Lib.hid (HGa.out.kept hb); clear HGa; have HGa := HGa'; clear HGa'
        have HY' := Lib.hid (HY.out.kept hb); clear HY; have HY := HY'; clear HY'
        clear hb
        have cHA := HA.out.cell
        have lHA := HA.out.lt
        have cHO := HO.out.cell
        have lHO := HO.out.lt
        have cHX := HX.out.cell
        have lHX := HX.out.lt
        have cHY := HY.out.cell
        have lHY := HY.out.lt
        clear HGa
        clear cHY lHY
        clear HY
        as_aux_lemma =>
          go_wp2_with fail
          (refine wp_region_calm [] [0, 2] 7 (by kernel_rfl) rfl (by kernel_rfl) (by kernel_rfl) (by kernel_rfl) ?_; simp only [pickB, List.filterMap_cons, List.filterMap_nil, List.getElem?_toArray, List.getElem?_cons_zero, List.getElem?_cons_succ]; (repeat (first | ((first | (with_reducible refine quietL_plain rfl (fun K hK => ?_)) | (with_reducible refine quietL_want (by with_unfolding_all rfl) (fun K hK => ?_))); (apply Exists.intro; refine ⟨fun wx hx => ?_, ?_⟩; (· (have hcx := ifs_ex hx); simp [go_sem, *, ↓IntWalk.iteOmega] <;> (first | rfl | exact ⟨rfl, rfl⟩ | fail)); (simp only [Act.put, List.setIfInBounds_toArray, List.set_cons_zero, List.set_cons_succ]; refine hK _ ?_; clear hK K))) | ((with_reducible refine quietL_skip (by with_unfolding_all rfl) ?_); simp only [Act.put, List.setIfInBounds_toArray, List.set_cons_zero, List.set_cons_succ]))); refine quietL_nil ?_)
          (refine anyB_one (i := 1) (by kernel_rfl) rfl rfl ?_; intro w21 hb21 K hK; have hs21 := hb21.size; (try simp at hs21); go_wp2_with fail)
          refine (HOw.out _ (HL.out.trans (hb21.mono HL.out.size))).mono ?_
          rintro e w22 ⟨Ao, co, rfl, hm, hc, hb22⟩
          have hs22 := hb22.size
          have HMo := Lib.hid hm; have HKo := Lib.hid hc; clear hm hc
          (go_wp2; refine ⟨xs_, ?_⟩)
          (refine anyB_one (i := 3) (by kernel_rfl) rfl rfl ?_; intro w23 hb23 K hK; have hs23 := hb23.size; (try simp at hs23); go_wp2_with fail)
          refine (HCh.out _ _ _ (ms_kept HMo.out hb23) HKo.out).mono ?_
          rintro e w24 ⟨v5, rfl, hr, _, hb24⟩
          have hs24 := hb24.size
          obtain ⟨A5, c5, rfl, _, _, hrd⟩ := own_form hr
          have HRd := Lib.hid hrd
          clear hr hrd
          clear HMo HKo
          (go_wp2; refine ⟨xs_, ?_⟩)
          (refine anyB_quiet_at (by kernel_rfl) calm_panic xs_ 2 [4, 5, 6] _ _ (by kernel_rfl) (by decide +kernel) ?_; simp only [pickB, List.filterMap_cons, List.filterMap_nil, List.getElem?_toArray, List.getElem?_cons_zero, List.getElem?_cons_succ]; (repeat (first | ((first | (with_reducible refine quietL_plain rfl (fun K hK => ?_)) | (with_reducible refine quietL_want (by with_unfolding_all rfl) (fun K hK => ?_))); (apply Exists.intro; refine ⟨fun wx hx => ?_, ?_⟩; (· (have hcx := ifs_ex hx); simp [go_sem, *, ↓IntWalk.iteOmega] <;> (first | rfl | exact ⟨rfl, rfl⟩ | fail)); (simp only [Act.put, List.setIfInBounds_toArray, List.set_cons_zero, List.set_cons_succ]; refine hK _ ?_; clear hK K))) | ((with_reducible refine quietL_skip (by with_unfolding_all rfl) ?_); simp only [Act.put, List.setIfInBounds_toArray, List.set_cons_zero, List.set_cons_succ]))); refine quietL_nil ?_)
          (refine anyB_one (i := 7) (by kernel_rfl) rfl rfl ?_; intro w25 hb25 K hK; have hs25 := hb25.size; (try simp at hs25); go_wp2; refine ⟨xs_, ?_⟩)
          (refine anyB_one (i := 8) (by kernel_rfl) rfl rfl ?_; intro w26 hb26 K hK; have hs26 := hb26.size; (try simp at hs26); go_wp2; refine ⟨xs_, ?_⟩)
          (refine anyB_end (by kernel_rfl) ?_; intro w27 hb27; have hs27 := hb27.size; (try simp at hs27); simp only [Calm])
          have FS := Lib.hid ((((⟨HRd.out⟩ : RdI w24 A5 _ _).kept hb25).kept hb26).kept hb27)
          clear HRd
          have hb := hb21.trans ((hb22.trans ((hb23.trans ((hb24.trans ((hb25.trans ((hb26.trans ((hb27).mono hs26)).mono hs25)).mono hs24)).mono hs23)).mono hs22)).mono hs21)
          clear hb21 hb22 hb23 hb24 hb25 hb26 hb27 hs21 hs22 hs23 hs24 hs25 hs26 hs27
          clear cHA lHA cHO lHO cHX lHX
          have hs27 := hb.size
          have HL' := Lib.hid (HL.out.trans (hb.mono HL.out.size)); clear HL; have HL := HL'; clear HL'
          have HA' := Lib.hid (HA.out.kept hb); clear HA; have HA := HA'; clear HA'
          have HO' := Lib.hid (HO.out.kept hb); clear HO; have HO := HO'; clear HO'
          have HGm' := Lib.hid (HGm.out.kept hb); clear HGm; have HGm := HGm'; clear HGm'
          have HX' := Lib.hid (HX.out.kept hb); clear HX; have HX := HX'; clear HX'
          clear hb
          have cHA := HA.out.cell
          have lHA := HA.out.lt
          have cHO := HO.out.cell
          have lHO := HO.out.lt
          have cHX := HX.out.cell
          have lHX := HX.out.lt
          go_wp2_with fail
          as_aux_lemma =>
            have hwn : IntKind.i64.wrap (-o.c) = -o.c := by rw [IntKind.wrap_i64]; omega
            (refine wp_region_calm [] [0, 3, 4, 5, 6, 7, 8] 8 (by kernel_rfl) rfl (by kernel_rfl) (by kernel_rfl) (by kernel_rfl) ?_; simp only [pickB, List.filterMap_cons, List.filterMap_nil, List.getElem?_toArray, List.getElem?_cons_zero, List.getElem?_cons_succ]; (repeat (first | ((first | (with_reducible refine quietL_plain rfl (fun K hK => ?_)) | (with_reducible refine quietL_want (by with_unfolding_all rfl) (fun K hK => ?_))); (apply Exists.intro; refine ⟨fun wx hx => ?_, ?_⟩; (· (have hcx := ifs_ex hx); simp [go_sem, *, ↓IntWalk.iteOmega] <;> (first | rfl | exact ⟨rfl, rfl⟩ | fail)); (simp only [Act.put, List.setIfInBounds_toArray, List.set_cons_zero, List.set_cons_succ]; refine hK _ ?_; clear hK K))) | ((with_reducible refine quietL_skip (by with_unfolding_all rfl) ?_); simp only [Act.put, List.setIfInBounds_toArray, List.set_cons_zero, List.set_cons_succ]))); refine quietL_nil ?_)
            (refine anyB_one (i := 1) (by kernel_rfl) rfl rfl ?_; intro w28 hb28 K hK; have hs28 := hb28.size; (try simp at hs28); go_wp2_with fail)
            refine (HTo.out _ _ _ _ (ms_kept ((BlkArm.at (b := ⟨M1, 0, 0, 0, 0⟩) HGm.out hM1l).more HGm.out.lt) hb28)).mono ?_
            rintro e w29 ⟨At, ct, rfl, hm, _, hb29⟩
            have hs29 := hb29.size
            have HMt := Lib.hid hm; clear hm
            (go_wp2; refine ⟨xs_, ?_⟩)
            (refine anyB_one (i := 2) (by kernel_rfl) rfl rfl ?_; intro w30 hb30 K hK; have hs30 := hb30.size; (try simp at hs30); go_wp2_with fail)
            refine (HOo.out _ _ _ _ (ms_kept HMt.out hb30)).mono ?_
            rintro e w31 ⟨Ao, co, rfl, hm, hc, hb31⟩
            have hs31 := hb31.size
            have HMo := Lib.hid hm; have HKo := Lib.hid hc; clear hm hc HMt
            (go_wp2; refine ⟨xs_, ?_⟩)
            (refine anyB_one (i := 9) (by kernel_rfl) rfl rfl ?_; intro w32 hb32 K hK; have hs32 := hb32.size; (try simp at hs32); go_wp2_with fail)
            refine (HCm.out _ _ _ (ms_kept HMo.out hb32) HKo.out).mono ?_
            rintro e w33 ⟨v6, rfl, hr, _, hb33⟩
            have hs33 := hb33.size
            obtain ⟨A6, c6, rfl, _, _, hrd⟩ := own_form hr
            have HRd := Lib.hid hrd
            clear hr hrd HMo HKo
            (go_wp2; refine ⟨xs_, ?_⟩)
            (refine anyB_quiet_at (by kernel_rfl) calm_panic xs_ 2 [10, 11, 12] _ _ (by kernel_rfl) (by decide +kernel) ?_; simp only [pickB, List.filterMap_cons, List.filterMap_nil, List.getElem?_toArray, List.getElem?_cons_zero, List.getElem?_cons_succ]; (repeat (first | ((first | (with_reducible refine quietL_plain rfl (fun K hK => ?_)) | (with_reducible refine quietL_want (by with_unfolding_all rfl) (fun K hK => ?_))); (apply Exists.intro; refine ⟨fun wx hx => ?_, ?_⟩; (· (have hcx := ifs_ex hx); simp [go_sem, *, ↓IntWalk.iteOmega] <;> (first | rfl | exact ⟨rfl, rfl⟩ | fail)); (simp only [Act.put, List.setIfInBounds_toArray, List.set_cons_zero, List.set_cons_succ]; refine hK _ ?_; clear hK K))) | ((with_reducible refine quietL_skip (by with_unfolding_all rfl) ?_); simp only [Act.put, List.setIfInBounds_toArray, List.set_cons_zero, List.set_cons_succ]))); refine quietL_nil ?_)
            (refine anyB_one (i := 13) (by kernel_rfl) rfl rfl ?_; intro w34 hb34 K hK; have hs34 := hb34.size; (try simp at hs34); go_wp2; refine ⟨xs_, ?_⟩)
            (refine anyB_one (i := 14) (by kernel_rfl) rfl rfl ?_; intro w35 hb35 K hK; have hs35 := hb35.size; (try simp at hs35); go_wp2; refine ⟨xs_, ?_⟩)
            (refine anyB_end (by kernel_rfl) ?_; intro w36 hb36; have hs36 := hb36.size; (try simp at hs36); simp only [Calm])
            have FT := Lib.hid ((((⟨HRd.out⟩ : RdI w33 A6 _ _).kept hb34).kept hb35).kept hb36)
            clear HRd
            have hb := hb28.trans ((hb29.trans ((hb30.trans ((hb31.trans ((hb32.trans ((hb33.trans ((hb34.trans ((hb35.trans ((hb36).mono hs35)).mono hs34)).mono hs33)).mono hs32)).mono hs31)).mono hs30)).mono hs29)).mono hs28)
            clear hb28 hb29 hb30 hb31 hb32 hb33 hb34 hb35 hb36 hs28 hs29 hs30 hs31 hs32 hs33 hs34 hs35 hs36
            clear cHA lHA cHO lHO cHX lHX
            have hs36 := hb.size
            have HL' := Lib.hid (HL.out.trans (hb.mono HL.out.size)); clear HL; have HL := HL'; clear HL'
            have HA' := Lib.hid (HA.out.kept hb); clear HA; have HA := HA'; clear HA'
            have HO' := Lib.hid (HO.out.kept hb); clear HO; have HO := HO'; clear HO'
            have HGm' := Lib.hid (HGm.out.kept hb); clear HGm; have HGm := HGm'; clear HGm'
            have HX' := Lib.hid (HX.out.kept hb); clear HX; have HX := HX'; clear HX'
            have FS' := Lib.hid (FS.out.kept hb); clear FS; have FS := FS'; clear FS'
            clear hb
            have cHA := HA.out.cell
            have lHA := HA.out.lt
            have cHO := HO.out.cell
            have lHO := HO.out.lt
            have cHX := HX.out.cell
            have lHX := HX.out.lt
            as_aux_lemma =>
              have hee : (ce != ce) = false := by simp
              go_upto_region 26 with fail
              go_cut [163] (fun s163 wx => s163 = .bool false ∧ Below w36.heap.size w36 wx)
              case first =>
                by_cases hc0 : o.c = 0
                · have hc1 : (o.c != 0) = false := by simpa using hc0
                  go_wp2_with fail
                  go_meet
                  case rel => exact ⟨by first | rfl | (simp; done), Below.refl _ _⟩
                · have hc1 : (o.c != 0) = true := by simpa using hc0
                  have hLL := HLm.out hc0
                  have HSi := Lib.hid (SameInts_any w36.heap.size w36.heap.size A5 A6 L1.length L2.length c5 c6 L1 L2 w36 FS.out.out FT.out.out (Nat.le_refl _) (Nat.le_refl _) (by unfold maxLen; omega) (by unfold maxLen; omega))
                  rw [hLL, sameI_self] at HSi
                  clear hc0
                  subst hLL
                  go_wp2_with fail
                  refine HSi.out.mono ?_
                  rintro e wz ⟨rfl, hbz⟩
                  have HBz := Lib.hid hbz
                  clear hbz
                  go_wp2_with fail
                  go_meet
                  case rel => exact ⟨by first | rfl | (simp; done), HBz.out⟩
              rename World => w37
              obtain ⟨rfl, hb⟩ := hcut
              clear cHA lHA cHO lHO cHX lHX
              have hs37 := hb.size
              have HL' := Lib.hid (HL.out.trans (hb.mono HL.out.size)); clear HL; have HL := HL'; clear HL'
              have HA' := Lib.hid (HA.out.kept hb); clear HA; have HA := HA'; clear HA'
              have HO' := Lib.hid (HO.out.kept hb); clear HO; have HO := HO'; clear HO'
              have HGm' := Lib.hid (HGm.out.kept hb); clear HGm; have HGm := HGm'; clear HGm'
              have HX' := Lib.hid (HX.out.kept hb); clear HX; have HX := HX'; clear HX'
              have FS' := Lib.hid (FS.out.kept hb); clear FS; have FS := FS'; clear FS'
              have FT' := Lib.hid (FT.out.kept hb); clear FT; have FT := FT'; clear FT'
              clear hb
              have cHA := HA.out.cell
              have lHA := HA.out.lt
              have cHO := HO.out.cell
              have lHO := HO.out.lt
              have cHX := HX.out.cell
              have lHX := HX.out.lt
              clear FS
              clear FT
              clear cHX lHX
              clear HX
              clear HGm
              as_aux_lemma =>
                go_wp2_with fail
                (refine wp_region_calm [] [0, 2, 3] 7 (by kernel_rfl) rfl (by kernel_rfl) (by kernel_rfl) (by kernel_rfl) ?_; simp only [pickB, List.filterMap_cons, List.filterMap_nil, List.getElem?_toArray, List.getElem?_cons_zero, List.getElem?_cons_succ]; (repeat (first | ((first | (with_reducible refine quietL_plain rfl (fun K hK => ?_)) | (with_reducible refine quietL_want (by with_unfolding_all rfl) (fun K hK => ?_))); (apply Exists.intro; refine ⟨fun wx hx => ?_, ?_⟩; (· (have hcx := ifs_ex hx); simp [go_sem, *, ↓IntWalk.iteOmega] <;> (first | rfl | exact ⟨rfl, rfl⟩ | fail)); (simp only [Act.put, List.setIfInBounds_toArray, List.set_cons_zero, List.set_cons_succ]; refine hK _ ?_; clear hK K))) | ((with_reducible refine quietL_skip (by with_unfolding_all rfl) ?_); simp only [Act.put, List.setIfInBounds_toArray, List.set_cons_zero, List.set_cons_succ]))); refine quietL_nil ?_)
                (refine anyB_one (i := 1) (by kernel_rfl) rfl rfl ?_; intro w38 hb38 K hK; have hs38 := hb38.size; (try simp at hs38); go_wp2_with fail)
                refine (HOw.out _ (HL.out.trans (hb38.mono HL.out.size))).mono ?_
                rintro e w39 ⟨Ao, co, rfl, hm, hc, hb39⟩
                have hs39 := hb39.size
                have HMo := Lib.hid hm; have HKo := Lib.hid hc; clear hm hc
                (go_wp2; refine ⟨xs_, ?_⟩)
                (refine anyB_one (i := 4) (by kernel_rfl) rfl rfl ?_; intro w40 hb40 K hK; have hs40 := hb40.size; (try simp at hs40); go_wp2_with fail)
                refine (HRs.out _ _ _ (ms_kept HMo.out hb40) HKo.out).mono ?_
                rintro e w41 ⟨rfl, hb41⟩
                have hs41 := hb41.size
                skip
                clear HMo HKo
                (go_wp2; refine ⟨xs_, ?_⟩)
                (refine anyB_quiet_at (by kernel_rfl) calm_panic xs_ 2 [5, 6, 7] _ _ (by kernel_rfl) (by decide +kernel) ?_; simp only [pickB, List.filterMap_cons, List.filterMap_nil, List.getElem?_toArray, List.getElem?_cons_zero, List.getElem?_cons_succ]; (repeat (first | ((first | (with_reducible refine quietL_plain rfl (fun K hK => ?_)) | (with_reducible refine quietL_want (by with_unfolding_all rfl) (fun K hK => ?_))); (apply Exists.intro; refine ⟨fun wx hx => ?_, ?_⟩; (· (have hcx := ifs_ex hx); simp [go_sem, *, ↓IntWalk.iteOmega] <;> (first | rfl | exact ⟨rfl, rfl⟩ | fail)); (simp only [Act.put, List.setIfInBounds_toArray, List.set_cons_zero, List.set_cons_succ]; refine hK _ ?_; clear hK K))) | ((with_reducible refine quietL_skip (by with_unfolding_all rfl) ?_); simp only [Act.put, List.setIfInBounds_toArray, List.set_cons_zero, List.set_cons_succ]))); refine quietL_nil ?_)
                (refine anyB_one (i := 8) (by kernel_rfl) rfl rfl ?_; intro w42 hb42 K hK; have hs42 := hb42.size; (try simp at hs42); go_wp2; refine ⟨xs_, ?_⟩)
                (refine anyB_one (i := 9) (by kernel_rfl) rfl rfl ?_; intro w43 hb43 K hK; have hs43 := hb43.size; (try simp at hs43); go_wp2; refine ⟨xs_, ?_⟩)
                (refine anyB_end (by kernel_rfl) ?_; intro w44 hb44; have hs44 := hb44.size; (try simp at hs44); simp only [Calm])
                have hb := hb38.trans ((hb39.trans ((hb40.trans ((hb41.trans ((hb42.trans ((hb43.trans ((hb44).mono hs43)).mono hs42)).mono hs41)).mono hs40)).mono hs39)).mono hs38)
                clear hb38 hb39 hb40 hb41 hb42 hb43 hb44 hs38 hs39 hs40 hs41 hs42 hs43 hs44
                clear cHA lHA cHO lHO
                have hs44 := hb.size
                have HL' := Lib.hid (HL.out.trans (hb.mono HL.out.size)); clear HL; have HL := HL'; clear HL'
                have HA' := Lib.hid (HA.out.kept hb); clear HA; have HA := HA'; clear HA'
                have HO' := Lib.hid (HO.out.kept hb); clear HO; have HO := HO'; clear HO'
                clear hb
                have cHA := HA.out.cell
                have lHA := HA.out.lt
                have cHO := HO.out.cell
                have lHO := HO.out.lt
                go_wp2_with fail
                refine (HUs.out _ HL.out).mono ?_
                rintro e w45 ⟨v45, rfl, hr, hb⟩
                obtain ⟨A45, c45, rfl, _, _, _⟩ := own_form hr
                clear hr
                clear cHA lHA cHO lHO
                have hs45 := hb.size
                have HL' := Lib.hid (HL.out.trans (hb.mono HL.out.size)); clear HL; have HL := HL'; clear HL'
                have HA' := Lib.hid (HA.out.kept hb); clear HA; have HA := HA'; clear HA'
                have HO' := Lib.hid (HO.out.kept hb); clear HO; have HO := HO'; clear HO'
                clear hb
                have cHA := HA.out.cell
                have lHA := HA.out.lt
                have cHO := HO.out.cell
                have lHO := HO.out.lt
                as_aux_lemma =>
                  go_upto_region 30 with fail
                  go_cut [200] (fun s200 wx => s200 = .bool false ∧ Below w45.heap.size w45 wx)
                  case first =>
                    have hre := HRe.out
                    have hrv := HRv.out
                    by_cases hge : o.n ≤ (us.length : Int)
                    · have hge1 : decide (o.n ≤ (us.length : Int)) = true := decide_eq_true hge
                      have hge2 : decide ((us.length : Int) < o.n) = false := decide_eq_false (by omega)
                      rw [decide_eq_false (show ¬ (us.length : Int) - o.n < 0 by omega)] at hre
                      have hre0 : re = 0 := hre
                      subst hre0
                      rw [if_pos rfl] at hrv
                      subst hrv
                      clear hre hge
                      have hw1 : IntKind.i64.wrap ((us.length : Int) - o.n) = (us.length : Int) - o.n := by rw [IntKind.wrap_i64]; omega
                      have hw2 : ((us.length : Int) - o.n != (us.length : Int) - o.n) = false := by simp
                      go_wp2_with fail
                      go_meet
                      case rel => exact ⟨by first | rfl | (simp; done), Below.refl _ _⟩
                    · have hge1 : decide (o.n ≤ (us.length : Int)) = false := decide_eq_false hge
                      have hge2 : decide ((us.length : Int) < o.n) = true := decide_eq_true (by omega)
                      rw [decide_eq_true (show (us.length : Int) - o.n < 0 by omega)] at hre
                      have hre0 : re = 18 := hre
                      subst hre0
                      clear hre hge hrv
                      go_wp2_with fail
                      go_meet
                      case rel => exact ⟨by first | rfl | (simp; done), Below.refl _ _⟩
                  rename World => w46
                  obtain ⟨rfl, hb⟩ := hcut
                  clear cHA lHA cHO lHO
                  have hs46 := hb.size
                  have HL' := Lib.hid (HL.out.trans (hb.mono HL.out.size)); clear HL; have HL := HL'; clear HL'
                  have HA' := Lib.hid (HA.out.kept hb); clear HA; have HA := HA'; clear HA'
                  have HO' := Lib.hid (HO.out.kept hb); clear HO; have HO := HO'; clear HO'
                  clear hb
                  have cHA := HA.out.cell
                  have lHA := HA.out.lt
                  have cHO := HO.out.cell
                  have lHO := HO.out.lt
                  clear cHO lHO
                  clear HO
                  as_aux_lemma =>
                    obtain ⟨j, hj0, hj⟩ : ∃ j : Nat, (j : Int) = Int.tmod u (n : Int) ∧ j < n := by
                      refine ⟨u.toNat % n, ?_, Nat.mod_lt _ (by omega)⟩
                      obtain ⟨m, rfl⟩ : ∃ m : Nat, u = (m : Int) := ⟨u.toNat, by omega⟩
                      rw [Int.toNat_natCast]
                      rfl
                    have hjm : u % (n : Int) = (j : Int) := by
                      rw [hj0, Int.tmod_eq_emod_of_nonneg hu.1]
                    have hwu : IntKind.i64.wrap u = u := by rw [IntKind.wrap_i64]; omega
                    have hwj : IntKind.i64.wrap (j : Int) = (j : Int) := by rw [IntKind.wrap_i64]; omega
                    have hn00 : ¬ (n : Int) = 0 := by omega
                    have hj1 := hj0.symm
                    clear hj0
                    go_upto_region 32 with fail
                    go_cut [26] (fun s26 wx => s26 = .int .i64 (j : Int) ∧ Below w46.heap.size w46 wx)
                    case first =>
                      go_wp2_with fail
                      go_meet
                      case rel => exact ⟨by first | rfl | (simp [hj1, hjm, hwu, hwj]; done), Below.refl _ _⟩
                    rename World => w47
                    obtain ⟨rfl, hb⟩ := hcut
                    clear hj1 hjm hwu hwj hn00 hu
                    clear cHA lHA
                    have hs47 := hb.size
                    have HL' := Lib.hid (HL.out.trans (hb.mono HL.out.size)); clear HL; have HL := HL'; clear HL'
                    have HA' := Lib.hid (HA.out.kept hb); clear HA; have HA := HA'; clear HA'
                    clear hb
                    have cHA := HA.out.cell
                    have lHA := HA.out.lt
                    have hjl : j < a.m.length := by rw [HEl.out]; exact hj
                    have hE := HEn.out.1
                    have hF := HEn.out.2.2.1
                    obtain ⟨e1, e2⟩ := byp_self hE hjl
                    have hBo := bypA_ok hE hjl
                    have HRp0 := Lib.hid (fun hb => rep_self hE hjl hb)
                    have HBy := Lib.hid (fun W A c (hm : MsAt W W.heap.size A n a.m) (hc : n ≤ c) => Bypass_any W.heap.size A n c a (a.m[j]).n W hm (Nat.le_refl _) hF hc)
                    rw [e1, e2] at HBy
                    have HQj := Lib.hid (hF.nm _ (List.getElem_mem hjl))
                    have HZs : Hid (∀ W, Below w.heap.size w W → ∃ bm om, A = some ⟨bm, om, none⟩ ∧ bm < w.heap.size ∧ W.cell? ⟨bm, om + j * 4, none⟩ = some (.string (a.m[j]).n) ∧ W.cell? ⟨bm, om + j * 4 + 1, none⟩ = some (.int .i64 (a.m[j]).q) ∧ W.cell? ⟨bm, om + j * 4 + 3, none⟩ = some (.bool (a.m[j]).by_)) := Lib.hid (fun W hW => by
                      obtain ⟨_, hat⟩ := md_at (HMs.out.below hW)
                      obtain ⟨bm, om, em, hbm, z0, z1, _, z3⟩ := hat j hjl
                      exact ⟨bm, om, em, hbm, z0, z1, z3⟩)
                    have hxj : a.m[j]? = some a.m[j] := List.getElem?_eq_getElem hjl
                    have HXj0 := Lib.hid hxj
                    have HBo := Lib.hid hBo
                    clear e1 e2 hxj hBo
                    generalize a.m[j] = x at *
                    obtain ⟨xn, xq, xo, xb⟩ := x
                    dsimp only at HBy HZs
                    have HXj := HXj0
                    obtain ⟨bm, om, em, hbm, z0, z1, z3⟩ := HZs.out _ HL.out
                    have hbmw : bm < w47.heap.size := by have := HL.out.size; omega
                    clear hE hjl
                    subst em
                    cases xb with
                    | true =>
                      as_aux_lemma =>
                        clear HRp0 HBo
                        have HB0 := Lib.hid (fun W A c hm hc => (HBy.out W A c hm hc).mono (fun e w' (h : _ ∧ _) => show e = .returned (.tuple #[.agg #[.slice none 0 0, .int .i64 0, .int .i64 0, .int .i64 0, .int .i64 0], .int .i64 9]) ∧ Below W.heap.size W w' from by
                          obtain ⟨hb, ⟨h1, _⟩ | ⟨_, h1⟩⟩ := h
                          · exact absurd (show (9 : Int) = 0 from h1) (by decide)
                          · exact ⟨h1, hb⟩))
                        clear HBy
                        go_upto_region 33 with fail
                        go_cut [27, 28] (fun s27 s28 wx => ∃ b27 : Nat, s27 = .pointer (some ⟨b27, 0, none⟩) ∧ s28 = .int .i64 9 ∧ Below w47.heap.size w47 wx)
                        case first =>
                          as_aux_lemma =>
                            clear HZs HXj HXj0
                            have HP := Lib.hid (Below.refl w47.heap.size w47)
                            (refine wp_region_calm [] [0, 2, 3, 4, 5, 6, 7] 8 (by kernel_rfl) rfl (by kernel_rfl) (by kernel_rfl) (by kernel_rfl) ?_; simp only [pickB, List.filterMap_cons, List.filterMap_nil, List.getElem?_toArray, List.getElem?_cons_zero, List.getElem?_cons_succ]; (repeat (first | ((first | (with_reducible refine quietL_plain rfl (fun K hK => ?_)) | (with_reducible refine quietL_want (by with_unfolding_all rfl) (fun K hK => ?_))); (apply Exists.intro; refine ⟨fun wx hx => ?_, ?_⟩; (· (have hcx := ifs_ex hx); simp [go_sem, *, ↓IntWalk.iteOmega] <;> (first | rfl | exact ⟨rfl, rfl⟩ | skip)); (simp only [Act.put, List.setIfInBounds_toArray, List.set_cons_zero, List.set_cons_succ]; refine hK _ ?_; clear hK K))) | ((with_reducible refine quietL_skip (by with_unfolding_all rfl) ?_); simp only [Act.put, List.setIfInBounds_toArray, List.set_cons_zero, List.set_cons_succ]))); refine quietL_nil ?_)
                            refine anyB_two (i := 1) (j := 12) (by kernel_rfl) rfl rfl rfl rfl ?_ ?_
                            · skip
                              intro wa0 hba0 K hK
                              have hsa0 := hba0.size
                              (try simp at hsa0)
                              replace HP := Lib.hid (HP.out.trans (hba0.mono HP.out.size))
                              (try replace BB := Lib.hid (BB.out.kept hba0))
                              (try replace HMo := Lib.hid (ms_kept HMo.out hba0))
                              go_wp2_with fail
                              refine (HOw.out _ (HL.out.trans (HP.out.mono HL.out.size))).mono ?_
                              rintro e wb0 ⟨Ao, co, rfl, hm, hc, hbb0⟩
                              have hsb0 := hbb0.size
                              have HMo := Lib.hid hm; have HCo2 := Lib.hid hc; clear hm hc
                              replace HP := Lib.hid (HP.out.trans (hbb0.mono HP.out.size))
                              (try replace BB := Lib.hid (BB.out.kept hbb0))
                              go_wp2
                              refine ⟨xs_, ?_⟩
                              refine anyB_two (i := 8) (j := 12) (by kernel_rfl) rfl rfl rfl rfl ?_ ?_
                              · skip
                                intro wa1 hba1 K hK
                                have hsa1 := hba1.size
                                (try simp at hsa1)
                                replace HP := Lib.hid (HP.out.trans (hba1.mono HP.out.size))
                                (try replace BB := Lib.hid (BB.out.kept hba1))
                                (try replace HMo := Lib.hid (ms_kept HMo.out hba1))
                                go_wp2_with fail
                                refine (HB0.out _ _ _ HMo.out HCo2.out).mono ?_
                                rintro e wb1 ⟨rfl, hbb1⟩
                                have hsb1 := hbb1.size
                                clear HMo HCo2
                                replace HP := Lib.hid (HP.out.trans (hbb1.mono HP.out.size))
                                (try replace BB := Lib.hid (BB.out.kept hbb1))
                                go_wp2
                                refine ⟨xs_, ?_⟩
                                (refine anyB_quiet_at (by kernel_rfl) calm_panic xs_ 3 [9, 10, 11] _ _ (by kernel_rfl) (by decide +kernel) ?_; simp only [pickB, List.filterMap_cons, List.filterMap_nil, List.getElem?_toArray, List.getElem?_cons_zero, List.getElem?_cons_succ]; (repeat (first | ((first | (with_reducible refine quietL_plain rfl (fun K hK => ?_)) | (with_reducible refine quietL_want (by with_unfolding_all rfl) (fun K hK => ?_))); (apply Exists.intro; refine ⟨fun wx hx => ?_, ?_⟩; (· (have hcx := ifs_ex hx); simp [go_sem, *, ↓IntWalk.iteOmega] <;> (first | rfl | exact ⟨rfl, rfl⟩ | fail)); (simp only [Act.put, List.setIfInBounds_toArray, List.set_cons_zero, List.set_cons_succ]; refine hK _ ?_; clear hK K))) | ((with_reducible refine quietL_skip (by with_unfolding_all rfl) ?_); simp only [Act.put, List.setIfInBounds_toArray, List.set_cons_zero, List.set_cons_succ]))); refine quietL_nil ?_)
                                refine anyB_one (i := 12) (by kernel_rfl) rfl rfl ?_
                                intro wh hbh K hK
                                have hsh := hbh.size
                                (try simp at hsh)
                                replace HP := Lib.hid (HP.out.trans (hbh.mono HP.out.size))
                                (try replace HMo := Lib.hid (ms_kept HMo.out hbh))
                                have hbx : Below wh.heap.size wh (wh.alloc (.cells #[.slice none 0 0, .int .i64 0, .int .i64 0, .int .i64 0, .int .i64 0] 35)) := (Below.refl _ _).alloc (Nat.le_refl _) _
                                replace HP := Lib.hid (HP.out.trans (hbx.mono HP.out.size))
                                (try replace HMo := Lib.hid (ms_kept HMo.out hbx))
                                have BB := Lib.hid (Blk.new wh 35 #[.slice none 0 0, .int .i64 0, .int .i64 0, .int .i64 0, .int .i64 0])
                                have hwh := HP.out.size
                                clear hbx
                                go_wp2
                                refine ⟨xs_, ?_⟩
                                refine anyB_one (i := 13) (by kernel_rfl) rfl rfl ?_
                                intro wi hbi K hK
                                have hsi := hbi.size
                                (try simp at hsi)
                                replace HP := Lib.hid (HP.out.trans (hbi.mono HP.out.size))
                                replace BB := Lib.hid (BB.out.kept hbi)
                                (try replace HMo := Lib.hid (ms_kept HMo.out hbi))
                                have cB := BB.out.cell
                                have fB := BB.out.frozen
                                have lB := BB.out.lt
                                go_wp2
                                refine ⟨xs_, ?_⟩
                                have BC := Lib.hid (put5_blk (v0 := .slice none 0 0) (v1 := .int .i64 0) (v2 := .int .i64 0) (v3 := .int .i64 0) (v4 := .int .i64 0) BB.out)
                                have HPc := Lib.hid (put5_low (b := wh.heap.size) (v0 := .slice none 0 0) (v1 := .int .i64 0) (v2 := .int .i64 0) (v3 := .int .i64 0) (v4 := .int .i64 0) HP.out (by omega))
                                clear cB fB lB HP BB
                                refine anyB_one (i := 14) (by kernel_rfl) rfl rfl ?_
                                intro wj hbj K hK
                                have hsj := hbj.size
                                (try simp at hsj)
                                go_wp2
                                refine ⟨xs_, ?_⟩
                                refine anyB_end (by kernel_rfl) ?_
                                intro wk hbk
                                have hsk := hbk.size
                                simp only [Calm]
                                have BE := Lib.hid ((BC.out.kept hbj).kept hbk)
                                have HPe := Lib.hid ((HPc.out.trans (hbj.mono HPc.out.size)).trans (hbk.mono (by have := HPc.out.size; omega)))
                                go_wp2_with fail
                                go_meet
                                case rel => exact ⟨wh.heap.size, rfl, rfl, HPe.out⟩
                              · skip
                                intro wh hbh K hK
                                have hsh := hbh.size
                                (try simp at hsh)
                                replace HP := Lib.hid (HP.out.trans (hbh.mono HP.out.size))
                                (try replace HMo := Lib.hid (ms_kept HMo.out hbh))
                                have hbx : Below wh.heap.size wh (wh.alloc (.cells #[.slice none 0 0, .int .i64 0, .int .i64 0, .int .i64 0, .int .i64 0] 35)) := (Below.refl _ _).alloc (Nat.le_refl _) _
                                replace HP := Lib.hid (HP.out.trans (hbx.mono HP.out.size))
                                (try replace HMo := Lib.hid (ms_kept HMo.out hbx))
                                have BB := Lib.hid (Blk.new wh 35 #[.slice none 0 0, .int .i64 0, .int .i64 0, .int .i64 0, .int .i64 0])
                                have hwh := HP.out.size
                                clear hbx
                                go_wp2
                                refine ⟨xs_, ?_⟩
                                refine anyB_one (i := 8) (by kernel_rfl) rfl rfl ?_
                                intro wa1 hba1 K hK
                                have hsa1 := hba1.size
                                (try simp at hsa1)
                                replace HP := Lib.hid (HP.out.trans (hba1.mono HP.out.size))
                                (try replace BB := Lib.hid (BB.out.kept hba1))
                                (try replace HMo := Lib.hid (ms_kept HMo.out hba1))
                                go_wp2_with fail
                                refine (HB0.out _ _ _ HMo.out HCo2.out).mono ?_
                                rintro e wb1 ⟨rfl, hbb1⟩
                                have hsb1 := hbb1.size
                                clear HMo HCo2
                                replace HP := Lib.hid (HP.out.trans (hbb1.mono HP.out.size))
                                (try replace BB := Lib.hid (BB.out.kept hbb1))
                                go_wp2
                                refine ⟨xs_, ?_⟩
                                (refine anyB_quiet_at (by kernel_rfl) calm_panic xs_ 2 [9, 10, 11] _ _ (by kernel_rfl) (by decide +kernel) ?_; simp only [pickB, List.filterMap_cons, List.filterMap_nil, List.getElem?_toArray, List.getElem?_cons_zero, List.getElem?_cons_succ]; (repeat (first | ((first | (with_reducible refine quietL_plain rfl (fun K hK => ?_)) | (with_reducible refine quietL_want (by with_unfolding_all rfl) (fun K hK => ?_))); (apply Exists.intro; refine ⟨fun wx hx => ?_, ?_⟩; (· (have hcx := ifs_ex hx); simp [go_sem, *, ↓IntWalk.iteOmega] <;> (first | rfl | exact ⟨rfl, rfl⟩ | fail)); (simp only [Act.put, List.setIfInBounds_toArray, List.set_cons_zero, List.set_cons_succ]; refine hK _ ?_; clear hK K))) | ((with_reducible refine quietL_skip (by with_unfolding_all rfl) ?_); simp only [Act.put, List.setIfInBounds_toArray, List.set_cons_zero, List.set_cons_succ]))); refine quietL_nil ?_)
                                refine anyB_one (i := 13) (by kernel_rfl) rfl rfl ?_
                                intro wi hbi K hK
                                have hsi := hbi.size
                                (try simp at hsi)
                                replace HP := Lib.hid (HP.out.trans (hbi.mono HP.out.size))
                                replace BB := Lib.hid (BB.out.kept hbi)
                                (try replace HMo := Lib.hid (ms_kept HMo.out hbi))
                                have cB := BB.out.cell
                                have fB := BB.out.frozen
                                have lB := BB.out.lt
                                go_wp2
                                refine ⟨xs_, ?_⟩
                                have BC := Lib.hid (put5_blk (v0 := .slice none 0 0) (v1 := .int .i64 0) (v2 := .int .i64 0) (v3 := .int .i64 0) (v4 := .int .i64 0) BB.out)
                                have HPc := Lib.hid (put5_low (b := wh.heap.size) (v0 := .slice none 0 0) (v1 := .int .i64 0) (v2 := .int .i64 0) (v3 := .int .i64 0) (v4 := .int .i64 0) HP.out (by omega))
                                clear cB fB lB HP BB
                                refine anyB_one (i := 14) (by kernel_rfl) rfl rfl ?_
                                intro wj hbj K hK
                                have hsj := hbj.size
                                (try simp at hsj)
                                go_wp2
                                refine ⟨xs_, ?_⟩
                                refine anyB_end (by kernel_rfl) ?_
                                intro wk hbk
                                have hsk := hbk.size
                                simp only [Calm]
                                have BE := Lib.hid ((BC.out.kept hbj).kept hbk)
                                have HPe := Lib.hid ((HPc.out.trans (hbj.mono HPc.out.size)).trans (hbk.mono (by have := HPc.out.size; omega)))
                                go_wp2_with fail
                                go_meet
                                case rel => exact ⟨wh.heap.size, rfl, rfl, HPe.out⟩
                            · skip
                              intro wh hbh K hK
                              have hsh := hbh.size
                              (try simp at hsh)
                              replace HP := Lib.hid (HP.out.trans (hbh.mono HP.out.size))
                              (try replace HMo := Lib.hid (ms_kept HMo.out hbh))
                              have hbx : Below wh.heap.size wh (wh.alloc (.cells #[.slice none 0 0, .int .i64 0, .int .i64 0, .int .i64 0, .int .i64 0] 35)) := (Below.refl _ _).alloc (Nat.le_refl _) _
                              replace HP := Lib.hid (HP.out.trans (hbx.mono HP.out.size))
                              (try replace HMo := Lib.hid (ms_kept HMo.out hbx))
                              have BB := Lib.hid (Blk.new wh 35 #[.slice none 0 0, .int .i64 0, .int .i64 0, .int .i64 0, .int .i64 0])
                              have hwh := HP.out.size
                              clear hbx
                              go_wp2
                              refine ⟨xs_, ?_⟩
                              refine anyB_one (i := 1) (by kernel_rfl) rfl rfl ?_
                              intro wa0 hba0 K hK
                              have hsa0 := hba0.size
                              (try simp at hsa0)
                              replace HP := Lib.hid (HP.out.trans (hba0.mono HP.out.size))
                              (try replace BB := Lib.hid (BB.out.kept hba0))
                              (try replace HMo := Lib.hid (ms_kept HMo.out hba0))
                              go_wp2_with fail
                              refine (HOw.out _ (HL.out.trans (HP.out.mono HL.out.size))).mono ?_
                              rintro e wb0 ⟨Ao, co, rfl, hm, hc, hbb0⟩
                              have hsb0 := hbb0.size
                              have HMo := Lib.hid hm; have HCo2 := Lib.hid hc; clear hm hc
                              replace HP := Lib.hid (HP.out.trans (hbb0.mono HP.out.size))
                              (try replace BB := Lib.hid (BB.out.kept hbb0))
                              go_wp2
                              refine ⟨xs_, ?_⟩
                              refine anyB_one (i := 8) (by kernel_rfl) rfl rfl ?_
                              intro wa1 hba1 K hK
                              have hsa1 := hba1.size
                              (try simp at hsa1)
                              replace HP := Lib.hid (HP.out.trans (hba1.mono HP.out.size))
                              (try replace BB := Lib.hid (BB.out.kept hba1))
                              (try replace HMo := Lib.hid (ms_kept HMo.out hba1))
                              go_wp2_with fail
                              refine (HB0.out _ _ _ HMo.out HCo2.out).mono ?_
                              rintro e wb1 ⟨rfl, hbb1⟩
                              have hsb1 := hbb1.size
                              clear HMo HCo2
                              replace HP := Lib.hid (HP.out.trans (hbb1.mono HP.out.size))
                              (try replace BB := Lib.hid (BB.out.kept hbb1))
                              go_wp2
                              refine ⟨xs_, ?_⟩
                              (refine anyB_quiet_at (by kernel_rfl) calm_panic xs_ 2 [9, 10, 11] _ _ (by kernel_rfl) (by decide +kernel) ?_; simp only [pickB, List.filterMap_cons, List.filterMap_nil, List.getElem?_toArray, List.getElem?_cons_zero, List.getElem?_cons_succ]; (repeat (first | ((first | (with_reducible refine quietL_plain rfl (fun K hK => ?_)) | (with_reducible refine quietL_want (by with_unfolding_all rfl) (fun K hK => ?_))); (apply Exists.intro; refine ⟨fun wx hx => ?_, ?_⟩; (· (have hcx := ifs_ex hx); simp [go_sem, *, ↓IntWalk.iteOmega] <;> (first | rfl | exact ⟨rfl, rfl⟩ | fail)); (simp only [Act.put, List.setIfInBounds_toArray, List.set_cons_zero, List.set_cons_succ]; refine hK _ ?_; clear hK K))) | ((with_reducible refine quietL_skip (by with_unfolding_all rfl) ?_); simp only [Act.put, List.setIfInBounds_toArray, List.set_cons_zero, List.set_cons_succ]))); refine quietL_nil ?_)
                              refine anyB_one (i := 13) (by kernel_rfl) rfl rfl ?_
                              intro wi hbi K hK
                              have hsi := hbi.size
                              (try simp at hsi)
                              replace HP := Lib.hid (HP.out.trans (hbi.mono HP.out.size))
                              replace BB := Lib.hid (BB.out.kept hbi)
                              (try replace HMo := Lib.hid (ms_kept HMo.out hbi))
                              have cB := BB.out.cell
                              have fB := BB.out.frozen
                              have lB := BB.out.lt
                              go_wp2
                              refine ⟨xs_, ?_⟩
                              have BC := Lib.hid (put5_blk (v0 := .slice none 0 0) (v1 := .int .i64 0) (v2 := .int .i64 0) (v3 := .int .i64 0) (v4 := .int .i64 0) BB.out)
                              have HPc := Lib.hid (put5_low (b := wh.heap.size) (v0 := .slice none 0 0) (v1 := .int .i64 0) (v2 := .int .i64 0) (v3 := .int .i64 0) (v4 := .int .i64 0) HP.out (by omega))
                              clear cB fB lB HP BB
                              refine anyB_one (i := 14) (by kernel_rfl) rfl rfl ?_
                              intro wj hbj K hK
                              have hsj := hbj.size
                              (try simp at hsj)
                              go_wp2
                              refine ⟨xs_, ?_⟩
                              refine anyB_end (by kernel_rfl) ?_
                              intro wk hbk
                              have hsk := hbk.size
                              simp only [Calm]
                              have BE := Lib.hid ((BC.out.kept hbj).kept hbk)
                              have HPe := Lib.hid ((HPc.out.trans (hbj.mono HPc.out.size)).trans (hbk.mono (by have := HPc.out.size; omega)))
                              go_wp2_with fail
                              go_meet
                              case rel => exact ⟨wh.heap.size, rfl, rfl, HPe.out⟩
                        rename World => wz
                        obtain ⟨b27, rfl, rfl, hb⟩ := hcut
                        have HLz := Lib.hid (HL.out.trans (hb.mono HL.out.size))
                        have hAz := HA.out.kept hb
                        have hbmz : bm < wz.heap.size := by have := HLz.out.size; omega
                        have z3 := (hb.cell (p := ⟨bm, om + j * 4 + 3, none⟩) hbmw).trans z3
                        clear cHA lHA z0 z1 hb hbmw
                        have cHA := hAz.cell
                        have lHA := hAz.lt
                        go_wp2_with fail
                        go_ret
                        exact ⟨by first | rfl | (simp; done), HLz.out⟩
                    | false =>
                    as_aux_lemma =>
                      have hrp := HRp0.out rfl
                      obtain ⟨MB, hMB⟩ : ∃ MB, a.m.set j ⟨xn, xq, false, true⟩ = MB := ⟨_, rfl⟩
                      obtain ⟨MR, hMR⟩ : ∃ MR, a.m.set j ⟨xn, xq, false, false⟩ = MR := ⟨_, rfl⟩
                      have hpB : putM a j (bypM ⟨xn, xq, xo, false⟩) = ⟨MB, a.lo, a.hi, a.cur, a.lim⟩ := by rw [← hMB]; rfl
                      have hpR : putM a j ⟨xn, xq, false, false⟩ = ⟨MR, a.lo, a.hi, a.cur, a.lim⟩ := by rw [← hMR]; rfl
                      have hlB : MB.length = n := by rw [← hMB, List.length_set]; exact HEl.out
                      have hlR : MR.length = n := by rw [← hMR, List.length_set]; exact HEl.out
                      have hFB : FitA ⟨MB, a.lo, a.hi, a.cur, a.lim⟩ := ⟨by show MB.length ≤ 17; rw [hlB]; omega, fun y hy => by
                        have hy : y ∈ a.m.set j ⟨xn, xq, false, true⟩ := by rw [hMB]; exact hy
                        rcases List.mem_or_eq_of_mem_set hy with h | rfl
                        · exact hF.nm y h
                        · exact HQj.out⟩
                      have HB0 := Lib.hid (fun W A c hm hc => (HBy.out W A c hm hc).mono (fun e w' (h : _ ∧ _) => show ∃ g, e = .returned (.tuple #[.agg #[.slice (some ⟨g, 0, none⟩) n n, .int .i64 a.lo, .int .i64 a.hi, .int .i64 a.cur, .int .i64 a.lim], .int .i64 0]) ∧ MsAt w' w'.heap.size (some ⟨g, 0, none⟩) n MB ∧ Below W.heap.size W w' from by
                        rw [hpB] at h
                        obtain ⟨hb, ⟨_, g, h1, h2, _⟩ | ⟨h1, _⟩⟩ := h
                        · dsimp only at h1 h2
                          rw [hlB] at h1
                          exact ⟨g, h1, (BlkArm.at (b := ⟨MB, a.lo, a.hi, a.cur, a.lim⟩) h2 hlB).more h2.lt, hb⟩
                        · exact absurd rfl h1))
                      have hck := HBo.out
                      rw [hpB] at hck
                      have HCk := Lib.hid (fun W A c (hm : MsAt W W.heap.size A n MB) => rCheckArm_any W.heap.size A n c ⟨MB, a.lo, a.hi, a.cur, a.lim⟩ W hm (Nat.le_refl _) hFB)
                      rw [hck] at HCk
                      rw [hpB, hpR] at hrp
                      dsimp only at hrp
                      have HRp := Lib.hid (fun W A c (hm : MsAt W W.heap.size A n MB) (hc : n ≤ c) => (Replaced_any W.heap.size A n c ⟨MB, a.lo, a.hi, a.cur, a.lim⟩ xn xq W hm (Nat.le_refl _) hFB hc).mono (fun e w' (h : ArmERes W (repA ⟨MB, a.lo, a.hi, a.cur, a.lim⟩ xn xq) (repE ⟨MB, a.lo, a.hi, a.cur, a.lim⟩ xn xq) e w') => show ∃ g, e = .returned (.tuple #[.agg #[.slice (some ⟨g, 0, none⟩) n n, .int .i64 a.lo, .int .i64 a.hi, .int .i64 a.cur, .int .i64 a.lim], .int .i64 0]) ∧ MsAt w' w'.heap.size (some ⟨g, 0, none⟩) n MR ∧ Below W.heap.size W w' from by
                        rw [hrp.1, hrp.2] at h
                        obtain ⟨hb, ⟨_, g, h1, h2, _⟩ | ⟨h1, _⟩⟩ := h
                        · dsimp only at h1 h2
                          rw [hlR] at h1
                          exact ⟨g, h1, (BlkArm.at (b := ⟨MR, a.lo, a.hi, a.cur, a.lim⟩) h2 hlR).more h2.lt, hb⟩
                        · exact absurd rfl h1))
                      dsimp only at HCk HRp
                      have HMR := Lib.hid hMR
                      have hlR2 := Lib.hid hlR
                      clear hrp HRp0 HBo hck hMB hMR hpB hpR hlB hlR hFB HBy HQj
                      go_upto_region 33 with fail
                      go_cut [27, 28] (fun s27 s28 wx => ∃ b27 g : Nat, s27 = .pointer (some ⟨b27, 0, none⟩) ∧ s28 = .int .i64 0 ∧ Blk wx b27 35 #[.slice (some ⟨g, 0, none⟩) n n, .int .i64 a.lo, .int .i64 a.hi, .int .i64 a.cur, .int .i64 a.lim] ∧ MsAt wx wx.heap.size (some ⟨g, 0, none⟩) n MB ∧ Below w47.heap.size w47 wx)
                      case first =>
                        as_aux_lemma =>
                          clear HZs HXj HXj0 HCk HRp
                          have HP := Lib.hid (Below.refl w47.heap.size w47)
                          (refine wp_region_calm [] [0, 2, 3, 4, 5, 6, 7] 8 (by kernel_rfl) rfl (by kernel_rfl) (by kernel_rfl) (by kernel_rfl) ?_; simp only [pickB, List.filterMap_cons, List.filterMap_nil, List.getElem?_toArray, List.getElem?_cons_zero, List.getElem?_cons_succ]; (repeat (first | ((first | (with_reducible refine quietL_plain rfl (fun K hK => ?_)) | (with_reducible refine quietL_want (by with_unfolding_all rfl) (fun K hK => ?_))); (apply Exists.intro; refine ⟨fun wx hx => ?_, ?_⟩; (· (have hcx := ifs_ex hx); simp [go_sem, *, ↓IntWalk.iteOmega] <;> (first | rfl | exact ⟨rfl, rfl⟩ | skip)); (simp only [Act.put, List.setIfInBounds_toArray, List.set_cons_zero, List.set_cons_succ]; refine hK _ ?_; clear hK K))) | ((with_reducible refine quietL_skip (by with_unfolding_all rfl) ?_); simp only [Act.put, List.setIfInBounds_toArray, List.set_cons_zero, List.set_cons_succ]))); refine quietL_nil ?_)
                          refine anyB_two (i := 1) (j := 12) (by kernel_rfl) rfl rfl rfl rfl ?_ ?_
                          · skip
                            intro wa0 hba0 K hK
                            have hsa0 := hba0.size
                            (try simp at hsa0)
                            replace HP := Lib.hid (HP.out.trans (hba0.mono HP.out.size))
                            (try replace BB := Lib.hid (BB.out.kept hba0))
                            (try replace HG := Lib.hid (ms_kept HG.out hba0))
                            (try replace HMo := Lib.hid (ms_kept HMo.out hba0))
                            go_wp2_with fail
                            refine (HOw.out _ (HL.out.trans (HP.out.mono HL.out.size))).mono ?_
                            rintro e wb0 ⟨Ao, co, rfl, hm, hc, hbb0⟩
                            have hsb0 := hbb0.size
                            have HMo := Lib.hid hm; have HCo2 := Lib.hid hc; clear hm hc
                            replace HP := Lib.hid (HP.out.trans (hbb0.mono HP.out.size))
                            (try replace BB := Lib.hid (BB.out.kept hbb0))
                            go_wp2
                            refine ⟨xs_, ?_⟩
                            refine anyB_two (i := 8) (j := 12) (by kernel_rfl) rfl rfl rfl rfl ?_ ?_
                            · skip
                              intro wa1 hba1 K hK
                              have hsa1 := hba1.size
                              (try simp at hsa1)
                              replace HP := Lib.hid (HP.out.trans (hba1.mono HP.out.size))
                              (try replace BB := Lib.hid (BB.out.kept hba1))
                              (try replace HG := Lib.hid (ms_kept HG.out hba1))
                              (try replace HMo := Lib.hid (ms_kept HMo.out hba1))
                              go_wp2_with fail
                              refine (HB0.out _ _ _ HMo.out HCo2.out).mono ?_
                              rintro e wb1 ⟨g, rfl, hg9, hbb1⟩
                              have hsb1 := hbb1.size
                              clear HMo HCo2; have HG := Lib.hid hg9; clear hg9
                              replace HP := Lib.hid (HP.out.trans (hbb1.mono HP.out.size))
                              (try replace BB := Lib.hid (BB.out.kept hbb1))
                              go_wp2
                              refine ⟨xs_, ?_⟩
                              (refine anyB_quiet_at (by kernel_rfl) calm_panic xs_ 3 [9, 10, 11] _ _ (by kernel_rfl) (by decide +kernel) ?_; simp only [pickB, List.filterMap_cons, List.filterMap_nil, List.getElem?_toArray, List.getElem?_cons_zero, List.getElem?_cons_succ]; (repeat (first | ((first | (with_reducible refine quietL_plain rfl (fun K hK => ?_)) | (with_reducible refine quietL_want (by with_unfolding_all rfl) (fun K hK => ?_))); (apply Exists.intro; refine ⟨fun wx hx => ?_, ?_⟩; (· (have hcx := ifs_ex hx); simp [go_sem, *, ↓IntWalk.iteOmega] <;> (first | rfl | exact ⟨rfl, rfl⟩ | fail)); (simp only [Act.put, List.setIfInBounds_toArray, List.set_cons_zero, List.set_cons_succ]; refine hK _ ?_; clear hK K))) | ((with_reducible refine quietL_skip (by with_unfolding_all rfl) ?_); simp only [Act.put, List.setIfInBounds_toArray, List.set_cons_zero, List.set_cons_succ]))); refine quietL_nil ?_)
                              refine anyB_one (i := 12) (by kernel_rfl) rfl rfl ?_
                              intro wh hbh K hK
                              have hsh := hbh.size
                              (try simp at hsh)
                              replace HP := Lib.hid (HP.out.trans (hbh.mono HP.out.size))
                              (try replace HG := Lib.hid (ms_kept HG.out hbh))
                              (try replace HMo := Lib.hid (ms_kept HMo.out hbh))
                              have hbx : Below wh.heap.size wh (wh.alloc (.cells #[.slice none 0 0, .int .i64 0, .int .i64 0, .int .i64 0, .int .i64 0] 35)) := (Below.refl _ _).alloc (Nat.le_refl _) _
                              replace HP := Lib.hid (HP.out.trans (hbx.mono HP.out.size))
                              (try replace HG := Lib.hid (ms_kept HG.out hbx))
                              (try replace HMo := Lib.hid (ms_kept HMo.out hbx))
                              have BB := Lib.hid (Blk.new wh 35 #[.slice none 0 0, .int .i64 0, .int .i64 0, .int .i64 0, .int .i64 0])
                              have hwh := HP.out.size
                              clear hbx
                              go_wp2
                              refine ⟨xs_, ?_⟩
                              refine anyB_one (i := 13) (by kernel_rfl) rfl rfl ?_
                              intro wi hbi K hK
                              have hsi := hbi.size
                              (try simp at hsi)
                              replace HP := Lib.hid (HP.out.trans (hbi.mono HP.out.size))
                              replace BB := Lib.hid (BB.out.kept hbi)
                              (try replace HG := Lib.hid (ms_kept HG.out hbi))
                              (try replace HMo := Lib.hid (ms_kept HMo.out hbi))
                              have cB := BB.out.cell
                              have fB := BB.out.frozen
                              have lB := BB.out.lt
                              go_wp2
                              refine ⟨xs_, ?_⟩
                              have BC := Lib.hid (put5_blk (v0 := .slice (some ⟨g, 0, none⟩) n n) (v1 := .int .i64 a.lo) (v2 := .int .i64 a.hi) (v3 := .int .i64 a.cur) (v4 := .int .i64 a.lim) BB.out)
                              have HPc := Lib.hid (put5_low (b := wh.heap.size) (v0 := .slice (some ⟨g, 0, none⟩) n n) (v1 := .int .i64 a.lo) (v2 := .int .i64 a.hi) (v3 := .int .i64 a.cur) (v4 := .int .i64 a.lim) HP.out (by omega))
                              (try replace HG := Lib.hid (ms_put5 (b := wh.heap.size) (v0 := .slice (some ⟨g, 0, none⟩) n n) (v1 := .int .i64 a.lo) (v2 := .int .i64 a.hi) (v3 := .int .i64 a.cur) (v4 := .int .i64 a.lim) HG.out BB.out))
                              clear cB fB lB HP BB
                              refine anyB_one (i := 14) (by kernel_rfl) rfl rfl ?_
                              intro wj hbj K hK
                              have hsj := hbj.size
                              (try simp at hsj)
                              go_wp2
                              refine ⟨xs_, ?_⟩
                              refine anyB_end (by kernel_rfl) ?_
                              intro wk hbk
                              have hsk := hbk.size
                              simp only [Calm]
                              have BE := Lib.hid ((BC.out.kept hbj).kept hbk)
                              have HPe := Lib.hid ((HPc.out.trans (hbj.mono HPc.out.size)).trans (hbk.mono (by have := HPc.out.size; omega)))
                              (try replace HG := Lib.hid (ms_kept (ms_kept HG.out hbj) hbk))
                              go_wp2_with fail
                              go_meet
                              case rel => exact ⟨wh.heap.size, g, rfl, rfl, BE.out, HG.out, HPe.out⟩
                            · skip
                              intro wh hbh K hK
                              have hsh := hbh.size
                              (try simp at hsh)
                              replace HP := Lib.hid (HP.out.trans (hbh.mono HP.out.size))
                              (try replace HG := Lib.hid (ms_kept HG.out hbh))
                              (try replace HMo := Lib.hid (ms_kept HMo.out hbh))
                              have hbx : Below wh.heap.size wh (wh.alloc (.cells #[.slice none 0 0, .int .i64 0, .int .i64 0, .int .i64 0, .int .i64 0] 35)) := (Below.refl _ _).alloc (Nat.le_refl _) _
                              replace HP := Lib.hid (HP.out.trans (hbx.mono HP.out.size))
                              (try replace HG := Lib.hid (ms_kept HG.out hbx))
                              (try replace HMo := Lib.hid (ms_kept HMo.out hbx))
                              have BB := Lib.hid (Blk.new wh 35 #[.slice none 0 0, .int .i64 0, .int .i64 0, .int .i64 0, .int .i64 0])
                              have hwh := HP.out.size
                              clear hbx
                              go_wp2
                              refine ⟨xs_, ?_⟩
                              refine anyB_one (i := 8) (by kernel_rfl) rfl rfl ?_
                              intro wa1 hba1 K hK
                              have hsa1 := hba1.size
                              (try simp at hsa1)
                              replace HP := Lib.hid (HP.out.trans (hba1.mono HP.out.size))
                              (try replace BB := Lib.hid (BB.out.kept hba1))
                              (try replace HG := Lib.hid (ms_kept HG.out hba1))
                              (try replace HMo := Lib.hid (ms_kept HMo.out hba1))
                              go_wp2_with fail
                              refine (HB0.out _ _ _ HMo.out HCo2.out).mono ?_
                              rintro e wb1 ⟨g, rfl, hg9, hbb1⟩
                              have hsb1 := hbb1.size
                              clear HMo HCo2; have HG := Lib.hid hg9; clear hg9
                              replace HP := Lib.hid (HP.out.trans (hbb1.mono HP.out.size))
                              (try replace BB := Lib.hid (BB.out.kept hbb1))
                              go_wp2
                              refine ⟨xs_, ?_⟩
                              (refine anyB_quiet_at (by kernel_rfl) calm_panic xs_ 2 [9, 10, 11] _ _ (by kernel_rfl) (by decide +kernel) ?_; simp only [pickB, List.filterMap_cons, List.filterMap_nil, List.getElem?_toArray, List.getElem?_cons_zero, List.getElem?_cons_succ]; (repeat (first | ((first | (with_reducible refine quietL_plain rfl (fun K hK => ?_)) | (with_reducible refine quietL_want (by with_unfolding_all rfl) (fun K hK => ?_))); (apply Exists.intro; refine ⟨fun wx hx => ?_, ?_⟩; (· (have hcx := ifs_ex hx); simp [go_sem, *, ↓IntWalk.iteOmega] <;> (first | rfl | exact ⟨rfl, rfl⟩ | fail)); (simp only [Act.put, List.setIfInBounds_toArray, List.set_cons_zero, List.set_cons_succ]; refine hK _ ?_; clear hK K))) | ((with_reducible refine quietL_skip (by with_unfolding_all rfl) ?_); simp only [Act.put, List.setIfInBounds_toArray, List.set_cons_zero, List.set_cons_succ]))); refine quietL_nil ?_)
                              refine anyB_one (i := 13) (by kernel_rfl) rfl rfl ?_
                              intro wi hbi K hK
                              have hsi := hbi.size
                              (try simp at hsi)
                              replace HP := Lib.hid (HP.out.trans (hbi.mono HP.out.size))
                              replace BB := Lib.hid (BB.out.kept hbi)
                              (try replace HG := Lib.hid (ms_kept HG.out hbi))
                              (try replace HMo := Lib.hid (ms_kept HMo.out hbi))
                              have cB := BB.out.cell
                              have fB := BB.out.frozen
                              have lB := BB.out.lt
                              go_wp2
                              refine ⟨xs_, ?_⟩
                              have BC := Lib.hid (put5_blk (v0 := .slice (some ⟨g, 0, none⟩) n n) (v1 := .int .i64 a.lo) (v2 := .int .i64 a.hi) (v3 := .int .i64 a.cur) (v4 := .int .i64 a.lim) BB.out)
                              have HPc := Lib.hid (put5_low (b := wh.heap.size) (v0 := .slice (some ⟨g, 0, none⟩) n n) (v1 := .int .i64 a.lo) (v2 := .int .i64 a.hi) (v3 := .int .i64 a.cur) (v4 := .int .i64 a.lim) HP.out (by omega))
                              (try replace HG := Lib.hid (ms_put5 (b := wh.heap.size) (v0 := .slice (some ⟨g, 0, none⟩) n n) (v1 := .int .i64 a.lo) (v2 := .int .i64 a.hi) (v3 := .int .i64 a.cur) (v4 := .int .i64 a.lim) HG.out BB.out))
                              clear cB fB lB HP BB
                              refine anyB_one (i := 14) (by kernel_rfl) rfl rfl ?_
                              intro wj hbj K hK
                              have hsj := hbj.size
                              (try simp at hsj)
                              go_wp2
                              refine ⟨xs_, ?_⟩
                              refine anyB_end (by kernel_rfl) ?_
                              intro wk hbk
                              have hsk := hbk.size
                              simp only [Calm]
                              have BE := Lib.hid ((BC.out.kept hbj).kept hbk)
                              have HPe := Lib.hid ((HPc.out.trans (hbj.mono HPc.out.size)).trans (hbk.mono (by have := HPc.out.size; omega)))
                              (try replace HG := Lib.hid (ms_kept (ms_kept HG.out hbj) hbk))
                              go_wp2_with fail
                              go_meet
                              case rel => exact ⟨wh.heap.size, g, rfl, rfl, BE.out, HG.out, HPe.out⟩
                          · skip
                            intro wh hbh K hK
                            have hsh := hbh.size
                            (try simp at hsh)
                            replace HP := Lib.hid (HP.out.trans (hbh.mono HP.out.size))
                            (try replace HG := Lib.hid (ms_kept HG.out hbh))
                            (try replace HMo := Lib.hid (ms_kept HMo.out hbh))
                            have hbx : Below wh.heap.size wh (wh.alloc (.cells #[.slice none 0 0, .int .i64 0, .int .i64 0, .int .i64 0, .int .i64 0] 35)) := (Below.refl _ _).alloc (Nat.le_refl _) _
                            replace HP := Lib.hid (HP.out.trans (hbx.mono HP.out.size))
                            (try replace HG := Lib.hid (ms_kept HG.out hbx))
                            (try replace HMo := Lib.hid (ms_kept HMo.out hbx))
                            have BB := Lib.hid (Blk.new wh 35 #[.slice none 0 0, .int .i64 0, .int .i64 0, .int .i64 0, .int .i64 0])
                            have hwh := HP.out.size
                            clear hbx
                            go_wp2
                            refine ⟨xs_, ?_⟩
                            refine anyB_one (i := 1) (by kernel_rfl) rfl rfl ?_
                            intro wa0 hba0 K hK
                            have hsa0 := hba0.size
                            (try simp at hsa0)
                            replace HP := Lib.hid (HP.out.trans (hba0.mono HP.out.size))
                            (try replace BB := Lib.hid (BB.out.kept hba0))
                            (try replace HG := Lib.hid (ms_kept HG.out hba0))
                            (try replace HMo := Lib.hid (ms_kept HMo.out hba0))
                            go_wp2_with fail
                            refine (HOw.out _ (HL.out.trans (HP.out.mono HL.out.size))).mono ?_
                            rintro e wb0 ⟨Ao, co, rfl, hm, hc, hbb0⟩
                            have hsb0 := hbb0.size
                            have HMo := Lib.hid hm; have HCo2 := Lib.hid hc; clear hm hc
                            replace HP := Lib.hid (HP.out.trans (hbb0.mono HP.out.size))
                            (try replace BB := Lib.hid (BB.out.kept hbb0))
                            go_wp2
                            refine ⟨xs_, ?_⟩
                            refine anyB_one (i := 8) (by kernel_rfl) rfl rfl ?_
                            intro wa1 hba1 K hK
                            have hsa1 := hba1.size
                            (try simp at hsa1)
                            replace HP := Lib.hid (HP.out.trans (hba1.mono HP.out.size))
                            (try replace BB := Lib.hid (BB.out.kept hba1))
                            (try replace HG := Lib.hid (ms_kept HG.out hba1))
                            (try replace HMo := Lib.hid (ms_kept HMo.out hba1))
                            go_wp2_with fail
                            refine (HB0.out _ _ _ HMo.out HCo2.out).mono ?_
                            rintro e wb1 ⟨g, rfl, hg9, hbb1⟩
                            have hsb1 := hbb1.size
                            clear HMo HCo2; have HG := Lib.hid hg9; clear hg9
                            replace HP := Lib.hid (HP.out.trans (hbb1.mono HP.out.size))
                            (try replace BB := Lib.hid (BB.out.kept hbb1))
                            go_wp2
                            refine ⟨xs_, ?_⟩
                            (refine anyB_quiet_at (by kernel_rfl) calm_panic xs_ 2 [9, 10, 11] _ _ (by kernel_rfl) (by decide +kernel) ?_; simp only [pickB, List.filterMap_cons, List.filterMap_nil, List.getElem?_toArray, List.getElem?_cons_zero, List.getElem?_cons_succ]; (repeat (first | ((first | (with_reducible refine quietL_plain rfl (fun K hK => ?_)) | (with_reducible refine quietL_want (by with_unfolding_all rfl) (fun K hK => ?_))); (apply Exists.intro; refine ⟨fun wx hx => ?_, ?_⟩; (· (have hcx := ifs_ex hx); simp [go_sem, *, ↓IntWalk.iteOmega] <;> (first | rfl | exact ⟨rfl, rfl⟩ | fail)); (simp only [Act.put, List.setIfInBounds_toArray, List.set_cons_zero, List.set_cons_succ]; refine hK _ ?_; clear hK K))) | ((with_reducible refine quietL_skip (by with_unfolding_all rfl) ?_); simp only [Act.put, List.setIfInBounds_toArray, List.set_cons_zero, List.set_cons_succ]))); refine quietL_nil ?_)
                            refine anyB_one (i := 13) (by kernel_rfl) rfl rfl ?_
                            intro wi hbi K hK
                            have hsi := hbi.size
                            (try simp at hsi)
                            replace HP := Lib.hid (HP.out.trans (hbi.mono HP.out.size))
                            replace BB := Lib.hid (BB.out.kept hbi)
                            (try replace HG := Lib.hid (ms_kept HG.out hbi))
                            (try replace HMo := Lib.hid (ms_kept HMo.out hbi))
                            have cB := BB.out.cell
                            have fB := BB.out.frozen
                            have lB := BB.out.lt
                            go_wp2
                            refine ⟨xs_, ?_⟩
                            have BC := Lib.hid (put5_blk (v0 := .slice (some ⟨g, 0, none⟩) n n) (v1 := .int .i64 a.lo) (v2 := .int .i64 a.hi) (v3 := .int .i64 a.cur) (v4 := .int .i64 a.lim) BB.out)
                            have HPc := Lib.hid (put5_low (b := wh.heap.size) (v0 := .slice (some ⟨g, 0, none⟩) n n) (v1 := .int .i64 a.lo) (v2 := .int .i64 a.hi) (v3 := .int .i64 a.cur) (v4 := .int .i64 a.lim) HP.out (by omega))
                            (try replace HG := Lib.hid (ms_put5 (b := wh.heap.size) (v0 := .slice (some ⟨g, 0, none⟩) n n) (v1 := .int .i64 a.lo) (v2 := .int .i64 a.hi) (v3 := .int .i64 a.cur) (v4 := .int .i64 a.lim) HG.out BB.out))
                            clear cB fB lB HP BB
                            refine anyB_one (i := 14) (by kernel_rfl) rfl rfl ?_
                            intro wj hbj K hK
                            have hsj := hbj.size
                            (try simp at hsj)
                            go_wp2
                            refine ⟨xs_, ?_⟩
                            refine anyB_end (by kernel_rfl) ?_
                            intro wk hbk
                            have hsk := hbk.size
                            simp only [Calm]
                            have BE := Lib.hid ((BC.out.kept hbj).kept hbk)
                            have HPe := Lib.hid ((HPc.out.trans (hbj.mono HPc.out.size)).trans (hbk.mono (by have := HPc.out.size; omega)))
                            (try replace HG := Lib.hid (ms_kept (ms_kept HG.out hbj) hbk))
                            go_wp2_with fail
                            go_meet
                            case rel => exact ⟨wh.heap.size, g, rfl, rfl, BE.out, HG.out, HPe.out⟩
                      clear z0 z1 z3 hbmw
                      rename World => w48
                      obtain ⟨b27, g27, rfl, rfl, h9, hy, hb⟩ := hcut
                      have HB7 := Lib.hid h9
                      have HM7 := Lib.hid hy
                      clear h9 hy HB0
                      clear cHA lHA
                      have hs48 := hb.size
                      have HL' := Lib.hid (HL.out.trans (hb.mono HL.out.size)); clear HL; have HL := HL'; clear HL'
                      have HA' := Lib.hid (HA.out.kept hb); clear HA; have HA := HA'; clear HA'
                      clear hb
                      have cHA := HA.out.cell
                      have lHA := HA.out.lt
                      have cHB7 := HB7.out.cell
                      have lHB7 := HB7.out.lt
                      obtain ⟨bm', om', em', hbm', z0, z1, z3⟩ := HZs.out _ HL.out
                      cases em'
                      have hbmw : bm < w48.heap.size := by have := HL.out.size; omega
                      clear hbm'
                      go_wp2_with fail
                      clear z0 z1 z3 hbmw
                      refine (HTo.out _ _ _ _ HM7.out).mono ?_
                      rintro e w49 ⟨A49, c49, rfl, hm, hc, hb⟩
                      have HM49 := Lib.hid hm; have HC49 := Lib.hid hc; clear hm hc; clear HC49
                      clear cHA lHA cHB7 lHB7
                      have hs49 := hb.size
                      have HL' := Lib.hid (HL.out.trans (hb.mono HL.out.size)); clear HL; have HL := HL'; clear HL'
                      have HA' := Lib.hid (HA.out.kept hb); clear HA; have HA := HA'; clear HA'
                      have HB7' := Lib.hid (HB7.out.kept hb); clear HB7; have HB7 := HB7'; clear HB7'
                      have HM7' := Lib.hid (ms_kept HM7.out hb); clear HM7; have HM7 := HM7'; clear HM7'
                      clear hb
                      have cHA := HA.out.cell
                      have lHA := HA.out.lt
                      have cHB7 := HB7.out.cell
                      have lHB7 := HB7.out.lt
                      go_wp2_with fail
                      refine (HCk.out _ _ _ HM49.out).mono ?_
                      rintro e w50 ⟨rfl, hb⟩
                      clear HM49 HCk
                      clear cHA lHA cHB7 lHB7
                      have hs50 := hb.size
                      have HL' := Lib.hid (HL.out.trans (hb.mono HL.out.size)); clear HL; have HL := HL'; clear HL'
                      have HA' := Lib.hid (HA.out.kept hb); clear HA; have HA := HA'; clear HA'
                      have HB7' := Lib.hid (HB7.out.kept hb); clear HB7; have HB7 := HB7'; clear HB7'
                      have HM7' := Lib.hid (ms_kept HM7.out hb); clear HM7; have HM7 := HM7'; clear HM7'
                      clear hb
                      have cHA := HA.out.cell
                      have lHA := HA.out.lt
                      have cHB7 := HB7.out.cell
                      have lHB7 := HB7.out.lt
                      as_aux_lemma =>
                        obtain ⟨bm', om', em', hbm', z0, z1, z3⟩ := HZs.out _ HL.out
                        cases em'
                        have hbmw : bm < w50.heap.size := by have := HL.out.size; omega
                        clear hbm'
                        go_upto_region 38 with fail
                        go_cut [29, 30] (fun s29 s30 wx => ∃ b29 g : Nat, s29 = .pointer (some ⟨b29, 0, none⟩) ∧ s30 = .int .i64 0 ∧ Blk wx b29 35 #[.slice (some ⟨g, 0, none⟩) n n, .int .i64 a.lo, .int .i64 a.hi, .int .i64 a.cur, .int .i64 a.lim] ∧ MsAt wx wx.heap.size (some ⟨g, 0, none⟩) n MR ∧ Below w50.heap.size w50 wx)
                        case first =>
                          as_aux_lemma =>
                            clear HZs HXj HXj0
                            have HP := Lib.hid (Below.refl w50.heap.size w50)
                            (refine wp_region_calm [] [0, 3, 4, 5, 6, 7, 8, 9, 10, 11, 12, 13, 14] 9 (by kernel_rfl) rfl (by kernel_rfl) (by kernel_rfl) (by kernel_rfl) ?_; simp only [pickB, List.filterMap_cons, List.filterMap_nil, List.getElem?_toArray, List.getElem?_cons_zero, List.getElem?_cons_succ]; (repeat (first | ((first | (with_reducible refine quietL_plain rfl (fun K hK => ?_)) | (with_reducible refine quietL_want (by with_unfolding_all rfl) (fun K hK => ?_))); (apply Exists.intro; refine ⟨fun wx hx => ?_, ?_⟩; (· (have hcx := ifs_ex hx); simp [go_sem, *, ↓IntWalk.iteOmega] <;> (first | rfl | exact ⟨rfl, rfl⟩ | skip)); (simp only [Act.put, List.setIfInBounds_toArray, List.set_cons_zero, List.set_cons_succ]; refine hK _ ?_; clear hK K))) | ((with_reducible refine quietL_skip (by with_unfolding_all rfl) ?_); simp only [Act.put, List.setIfInBounds_toArray, List.set_cons_zero, List.set_cons_succ]))); refine quietL_nil ?_)
                            refine anyB_two (i := 1) (j := 19) (by kernel_rfl) rfl rfl rfl rfl ?_ ?_
                            · skip
                              intro wa0 hba0 K hK
                              have hsa0 := hba0.size
                              (try simp at hsa0)
                              replace HP := Lib.hid (HP.out.trans (hba0.mono HP.out.size))
                              (try replace BB := Lib.hid (BB.out.kept hba0))
                              (try replace HG := Lib.hid (ms_kept HG.out hba0))
                              (try replace HMo := Lib.hid (ms_kept HMo.out hba0))
                              go_wp2_with fail
                              refine (HTo.out _ _ _ _ (ms_kept HM7.out HP.out)).mono ?_
                              rintro e wb0 ⟨At, ct, rfl, hm, hc, hbb0⟩
                              have hsb0 := hbb0.size
                              have HMo := Lib.hid hm; clear hm hc
                              replace HP := Lib.hid (HP.out.trans (hbb0.mono HP.out.size))
                              (try replace BB := Lib.hid (BB.out.kept hbb0))
                              go_wp2
                              refine ⟨xs_, ?_⟩
                              refine anyB_two (i := 2) (j := 19) (by kernel_rfl) rfl rfl rfl rfl ?_ ?_
                              · skip
                                intro wa1 hba1 K hK
                                have hsa1 := hba1.size
                                (try simp at hsa1)
                                replace HP := Lib.hid (HP.out.trans (hba1.mono HP.out.size))
                                (try replace BB := Lib.hid (BB.out.kept hba1))
                                (try replace HG := Lib.hid (ms_kept HG.out hba1))
                                (try replace HMo := Lib.hid (ms_kept HMo.out hba1))
                                go_wp2_with fail
                                refine (HOo.out _ _ _ _ HMo.out).mono ?_
                                rintro e wb1 ⟨Ao, co, rfl, hm, hc, hbb1⟩
                                have hsb1 := hbb1.size
                                replace HMo := Lib.hid hm; have HCo2 := Lib.hid hc; clear hm hc
                                replace HP := Lib.hid (HP.out.trans (hbb1.mono HP.out.size))
                                (try replace BB := Lib.hid (BB.out.kept hbb1))
                                go_wp2
                                refine ⟨xs_, ?_⟩
                                refine anyB_two (i := 15) (j := 19) (by kernel_rfl) rfl rfl rfl rfl ?_ ?_
                                · skip
                                  intro wa2 hba2 K hK
                                  have hsa2 := hba2.size
                                  (try simp at hsa2)
                                  replace HP := Lib.hid (HP.out.trans (hba2.mono HP.out.size))
                                  (try replace BB := Lib.hid (BB.out.kept hba2))
                                  (try replace HG := Lib.hid (ms_kept HG.out hba2))
                                  (try replace HMo := Lib.hid (ms_kept HMo.out hba2))
                                  go_wp2_with fail
                                  refine (HRp.out _ _ _ HMo.out HCo2.out).mono ?_
                                  rintro e wb2 ⟨g, rfl, hg9, hbb2⟩
                                  have hsb2 := hbb2.size
                                  clear HMo HCo2; have HG := Lib.hid hg9; clear hg9
                                  replace HP := Lib.hid (HP.out.trans (hbb2.mono HP.out.size))
                                  (try replace BB := Lib.hid (BB.out.kept hbb2))
                                  go_wp2
                                  refine ⟨xs_, ?_⟩
                                  (refine anyB_quiet_at (by kernel_rfl) calm_panic xs_ 3 [16, 17, 18] _ _ (by kernel_rfl) (by decide +kernel) ?_; simp only [pickB, List.filterMap_cons, List.filterMap_nil, List.getElem?_toArray, List.getElem?_cons_zero, List.getElem?_cons_succ]; (repeat (first | ((first | (with_reducible refine quietL_plain rfl (fun K hK => ?_)) | (with_reducible refine quietL_want (by with_unfolding_all rfl) (fun K hK => ?_))); (apply Exists.intro; refine ⟨fun wx hx => ?_, ?_⟩; (· (have hcx := ifs_ex hx); simp [go_sem, *, ↓IntWalk.iteOmega] <;> (first | rfl | exact ⟨rfl, rfl⟩ | fail)); (simp only [Act.put, List.setIfInBounds_toArray, List.set_cons_zero, List.set_cons_succ]; refine hK _ ?_; clear hK K))) | ((with_reducible refine quietL_skip (by with_unfolding_all rfl) ?_); simp only [Act.put, List.setIfInBounds_toArray, List.set_cons_zero, List.set_cons_succ]))); refine quietL_nil ?_)
                                  refine anyB_one (i := 19) (by kernel_rfl) rfl rfl ?_
                                  intro wh hbh K hK
                                  have hsh := hbh.size
                                  (try simp at hsh)
                                  replace HP := Lib.hid (HP.out.trans (hbh.mono HP.out.size))
                                  (try replace HG := Lib.hid (ms_kept HG.out hbh))
                                  (try replace HMo := Lib.hid (ms_kept HMo.out hbh))
                                  have hbx : Below wh.heap.size wh (wh.alloc (.cells #[.slice none 0 0, .int .i64 0, .int .i64 0, .int .i64 0, .int .i64 0] 35)) := (Below.refl _ _).alloc (Nat.le_refl _) _
                                  replace HP := Lib.hid (HP.out.trans (hbx.mono HP.out.size))
                                  (try replace HG := Lib.hid (ms_kept HG.out hbx))
                                  (try replace HMo := Lib.hid (ms_kept HMo.out hbx))
                                  have BB := Lib.hid (Blk.new wh 35 #[.slice none 0 0, .int .i64 0, .int .i64 0, .int .i64 0, .int .i64 0])
                                  have hwh := HP.out.size
                                  clear hbx
                                  go_wp2
                                  refine ⟨xs_, ?_⟩
                                  refine anyB_one (i := 20) (by kernel_rfl) rfl rfl ?_
                                  intro wi hbi K hK
                                  have hsi := hbi.size
                                  (try simp at hsi)
                                  replace HP := Lib.hid (HP.out.trans (hbi.mono HP.out.size))
                                  replace BB := Lib.hid (BB.out.kept hbi)
                                  (try replace HG := Lib.hid (ms_kept HG.out hbi))
                                  (try replace HMo := Lib.hid (ms_kept HMo.out hbi))
                                  have cB := BB.out.cell
                                  have fB := BB.out.frozen
                                  have lB := BB.out.lt
                                  go_wp2
                                  refine ⟨xs_, ?_⟩
                                  have BC := Lib.hid (put5_blk (v0 := .slice (some ⟨g, 0, none⟩) n n) (v1 := .int .i64 a.lo) (v2 := .int .i64 a.hi) (v3 := .int .i64 a.cur) (v4 := .int .i64 a.lim) BB.out)
                                  have HPc := Lib.hid (put5_low (b := wh.heap.size) (v0 := .slice (some ⟨g, 0, none⟩) n n) (v1 := .int .i64 a.lo) (v2 := .int .i64 a.hi) (v3 := .int .i64 a.cur) (v4 := .int .i64 a.lim) HP.out (by omega))
                                  (try replace HG := Lib.hid (ms_put5 (b := wh.heap.size) (v0 := .slice (some ⟨g, 0, none⟩) n n) (v1 := .int .i64 a.lo) (v2 := .int .i64 a.hi) (v3 := .int .i64 a.cur) (v4 := .int .i64 a.lim) HG.out BB.out))
                                  clear cB fB lB HP BB
                                  refine anyB_one (i := 21) (by kernel_rfl) rfl rfl ?_
                                  intro wj hbj K hK
                                  have hsj := hbj.size
                                  (try simp at hsj)
                                  go_wp2
                                  refine ⟨xs_, ?_⟩
                                  refine anyB_end (by kernel_rfl) ?_
                                  intro wk hbk
                                  have hsk := hbk.size
                                  simp only [Calm]
                                  have BE := Lib.hid ((BC.out.kept hbj).kept hbk)
                                  have HPe := Lib.hid ((HPc.out.trans (hbj.mono HPc.out.size)).trans (hbk.mono (by have := HPc.out.size; omega)))
                                  (try replace HG := Lib.hid (ms_kept (ms_kept HG.out hbj) hbk))
                                  go_wp2_with fail
                                  go_meet
                                  case rel => exact ⟨wh.heap.size, g, rfl, rfl, BE.out, HG.out, HPe.out⟩
                                · skip
                                  intro wh hbh K hK
                                  have hsh := hbh.size
                                  (try simp at hsh)
                                  replace HP := Lib.hid (HP.out.trans (hbh.mono HP.out.size))
                                  (try replace HG := Lib.hid (ms_kept HG.out hbh))
                                  (try replace HMo := Lib.hid (ms_kept HMo.out hbh))
                                  have hbx : Below wh.heap.size wh (wh.alloc (.cells #[.slice none 0 0, .int .i64 0, .int .i64 0, .int .i64 0, .int .i64 0] 35)) := (Below.refl _ _).alloc (Nat.le_refl _) _
                                  replace HP := Lib.hid (HP.out.trans (hbx.mono HP.out.size))
                                  (try replace HG := Lib.hid (ms_kept HG.out hbx))
                                  (try replace HMo := Lib.hid (ms_kept HMo.out hbx))
                                  have BB := Lib.hid (Blk.new wh 35 #[.slice none 0 0, .int .i64 0, .int .i64 0, .int .i64 0, .int .i64 0])
                                  have hwh := HP.out.size
                                  clear hbx
                                  go_wp2
                                  refine ⟨xs_, ?_⟩
                                  refine anyB_one (i := 15) (by kernel_rfl) rfl rfl ?_
                                  intro wa2 hba2 K hK
                                  have hsa2 := hba2.size
                                  (try simp at hsa2)
                                  replace HP := Lib.hid (HP.out.trans (hba2.mono HP.out.size))
                                  (try replace BB := Lib.hid (BB.out.kept hba2))
                                  (try replace HG := Lib.hid (ms_kept HG.out hba2))
                                  (try replace HMo := Lib.hid (ms_kept HMo.out hba2))
                                  go_wp2_with fail
                                  refine (HRp.out _ _ _ HMo.out HCo2.out).mono ?_
                                  rintro e wb2 ⟨g, rfl, hg9, hbb2⟩
                                  have hsb2 := hbb2.size
                                  clear HMo HCo2; have HG := Lib.hid hg9; clear hg9
                                  replace HP := Lib.hid (HP.out.trans (hbb2.mono HP.out.size))
                                  (try replace BB := Lib.hid (BB.out.kept hbb2))
                                  go_wp2
                                  refine ⟨xs_, ?_⟩
                                  (refine anyB_quiet_at (by kernel_rfl) calm_panic xs_ 2 [16, 17, 18] _ _ (by kernel_rfl) (by decide +kernel) ?_; simp only [pickB, List.filterMap_cons, List.filterMap_nil, List.getElem?_toArray, List.getElem?_cons_zero, List.getElem?_cons_succ]; (repeat (first | ((first | (with_reducible refine quietL_plain rfl (fun K hK => ?_)) | (with_reducible refine quietL_want (by with_unfolding_all rfl) (fun K hK => ?_))); (apply Exists.intro; refine ⟨fun wx hx => ?_, ?_⟩; (· (have hcx := ifs_ex hx); simp [go_sem, *, ↓IntWalk.iteOmega] <;> (first | rfl | exact ⟨rfl, rfl⟩ | fail)); (simp only [Act.put, List.setIfInBounds_toArray, List.set_cons_zero, List.set_cons_succ]; refine hK _ ?_; clear hK K))) | ((with_reducible refine quietL_skip (by with_unfolding_all rfl) ?_); simp only [Act.put, List.setIfInBounds_toArray, List.set_cons_zero, List.set_cons_succ]))); refine quietL_nil ?_)
                                  refine anyB_one (i := 20) (by kernel_rfl) rfl rfl ?_
                                  intro wi hbi K hK
                                  have hsi := hbi.size
                                  (try simp at hsi)
                                  replace HP := Lib.hid (HP.out.trans (hbi.mono HP.out.size))
                                  replace BB := Lib.hid (BB.out.kept hbi)
                                  (try replace HG := Lib.hid (ms_kept HG.out hbi))
                                  (try replace HMo := Lib.hid (ms_kept HMo.out hbi))
                                  have cB := BB.out.cell
                                  have fB := BB.out.frozen
                                  have lB := BB.out.lt
                                  go_wp2
                                  refine ⟨xs_, ?_⟩
                                  have BC := Lib.hid (put5_blk (v0 := .slice (some ⟨g, 0, none⟩) n n) (v1 := .int .i64 a.lo) (v2 := .int .i64 a.hi) (v3 := .int .i64 a.cur) (v4 := .int .i64 a.lim) BB.out)
                                  have HPc := Lib.hid (put5_low (b := wh.heap.size) (v0 := .slice (some ⟨g, 0, none⟩) n n) (v1 := .int .i64 a.lo) (v2 := .int .i64 a.hi) (v3 := .int .i64 a.cur) (v4 := .int .i64 a.lim) HP.out (by omega))
                                  (try replace HG := Lib.hid (ms_put5 (b := wh.heap.size) (v0 := .slice (some ⟨g, 0, none⟩) n n) (v1 := .int .i64 a.lo) (v2 := .int .i64 a.hi) (v3 := .int .i64 a.cur) (v4 := .int .i64 a.lim) HG.out BB.out))
                                  clear cB fB lB HP BB
                                  refine anyB_one (i := 21) (by kernel_rfl) rfl rfl ?_
                                  intro wj hbj K hK
                                  have hsj := hbj.size
                                  (try simp at hsj)
                                  go_wp2
                                  refine ⟨xs_, ?_⟩
                                  refine anyB_end (by kernel_rfl) ?_
                                  intro wk hbk
                                  have hsk := hbk.size
                                  simp only [Calm]
                                  have BE := Lib.hid ((BC.out.kept hbj).kept hbk)
                                  have HPe := Lib.hid ((HPc.out.trans (hbj.mono HPc.out.size)).trans (hbk.mono (by have := HPc.out.size; omega)))
                                  (try replace HG := Lib.hid (ms_kept (ms_kept HG.out hbj) hbk))
                                  go_wp2_with fail
                                  go_meet
                                  case rel => exact ⟨wh.heap.size, g, rfl, rfl, BE.out, HG.out, HPe.out⟩
                              · skip
                                intro wh hbh K hK
                                have hsh := hbh.size
                                (try simp at hsh)
                                replace HP := Lib.hid (HP.out.trans (hbh.mono HP.out.size))
                                (try replace HG := Lib.hid (ms_kept HG.out hbh))
                                (try replace HMo := Lib.hid (ms_kept HMo.out hbh))
                                have hbx : Below wh.heap.size wh (wh.alloc (.cells #[.slice none 0 0, .int .i64 0, .int .i64 0, .int .i64 0, .int .i64 0] 35)) := (Below.refl _ _).alloc (Nat.le_refl _) _
                                replace HP := Lib.hid (HP.out.trans (hbx.mono HP.out.size))
                                (try replace HG := Lib.hid (ms_kept HG.out hbx))
                                (try replace HMo := Lib.hid (ms_kept HMo.out hbx))
                                have BB := Lib.hid (Blk.new wh 35 #[.slice none 0 0, .int .i64 0, .int .i64 0, .int .i64 0, .int .i64 0])
                                have hwh := HP.out.size
                                clear hbx
                                go_wp2
                                refine ⟨xs_, ?_⟩
                                refine anyB_one (i := 2) (by kernel_rfl) rfl rfl ?_
                                intro wa1 hba1 K hK
                                have hsa1 := hba1.size
                                (try simp at hsa1)
                                replace HP := Lib.hid (HP.out.trans (hba1.mono HP.out.size))
                                (try replace BB := Lib.hid (BB.out.kept hba1))
                                (try replace HG := Lib.hid (ms_kept HG.out hba1))
                                (try replace HMo := Lib.hid (ms_kept HMo.out hba1))
                                go_wp2_with fail
                                refine (HOo.out _ _ _ _ HMo.out).mono ?_
                                rintro e wb1 ⟨Ao, co, rfl, hm, hc, hbb1⟩
                                have hsb1 := hbb1.size
                                replace HMo := Lib.hid hm; have HCo2 := Lib.hid hc; clear hm hc
                                replace HP := Lib.hid (HP.out.trans (hbb1.mono HP.out.size))
                                (try replace BB := Lib.hid (BB.out.kept hbb1))
                                go_wp2
                                refine ⟨xs_, ?_⟩
                                refine anyB_one (i := 15) (by kernel_rfl) rfl rfl ?_
                                intro wa2 hba2 K hK
                                have hsa2 := hba2.size
                                (try simp at hsa2)
                                replace HP := Lib.hid (HP.out.trans (hba2.mono HP.out.size))
                                (try replace BB := Lib.hid (BB.out.kept hba2))
                                (try replace HG := Lib.hid (ms_kept HG.out hba2))
                                (try replace HMo := Lib.hid (ms_kept HMo.out hba2))
                                go_wp2_with fail
                                refine (HRp.out _ _ _ HMo.out HCo2.out).mono ?_
                                rintro e wb2 ⟨g, rfl, hg9, hbb2⟩
                                have hsb2 := hbb2.size
                                clear HMo HCo2; have HG := Lib.hid hg9; clear hg9
                                replace HP := Lib.hid (HP.out.trans (hbb2.mono HP.out.size))
                                (try replace BB := Lib.hid (BB.out.kept hbb2))
                                go_wp2
                                refine ⟨xs_, ?_⟩
                                (refine anyB_quiet_at (by kernel_rfl) calm_panic xs_ 2 [16, 17, 18] _ _ (by kernel_rfl) (by decide +kernel) ?_; simp only [pickB, List.filterMap_cons, List.filterMap_nil, List.getElem?_toArray, List.getElem?_cons_zero, List.getElem?_cons_succ]; (repeat (first | ((first | (with_reducible refine quietL_plain rfl (fun K hK => ?_)) | (with_reducible refine quietL_want (by with_unfolding_all rfl) (fun K hK => ?_))); (apply Exists.intro; refine ⟨fun wx hx => ?_, ?_⟩; (· (have hcx := ifs_ex hx); simp [go_sem, *, ↓IntWalk.iteOmega] <;> (first | rfl | exact ⟨rfl, rfl⟩ | fail)); (simp only [Act.put, List.setIfInBounds_toArray, List.set_cons_zero, List.set_cons_succ]; refine hK _ ?_; clear hK K))) | ((with_reducible refine quietL_skip (by with_unfolding_all rfl) ?_); simp only [Act.put, List.setIfInBounds_toArray, List.set_cons_zero, List.set_cons_succ]))); refine quietL_nil ?_)
                                refine anyB_one (i := 20) (by kernel_rfl) rfl rfl ?_
                                intro wi hbi K hK
                                have hsi := hbi.size
                                (try simp at hsi)
                                replace HP := Lib.hid (HP.out.trans (hbi.mono HP.out.size))
                                replace BB := Lib.hid (BB.out.kept hbi)
                                (try replace HG := Lib.hid (ms_kept HG.out hbi))
                                (try replace HMo := Lib.hid (ms_kept HMo.out hbi))
                                have cB := BB.out.cell
                                have fB := BB.out.frozen
                                have lB := BB.out.lt
                                go_wp2
                                refine ⟨xs_, ?_⟩
                                have BC := Lib.hid (put5_blk (v0 := .slice (some ⟨g, 0, none⟩) n n) (v1 := .int .i64 a.lo) (v2 := .int .i64 a.hi) (v3 := .int .i64 a.cur) (v4 := .int .i64 a.lim) BB.out)
                                have HPc := Lib.hid (put5_low (b := wh.heap.size) (v0 := .slice (some ⟨g, 0, none⟩) n n) (v1 := .int .i64 a.lo) (v2 := .int .i64 a.hi) (v3 := .int .i64 a.cur) (v4 := .int .i64 a.lim) HP.out (by omega))
                                (try replace HG := Lib.hid (ms_put5 (b := wh.heap.size) (v0 := .slice (some ⟨g, 0, none⟩) n n) (v1 := .int .i64 a.lo) (v2 := .int .i64 a.hi) (v3 := .int .i64 a.cur) (v4 := .int .i64 a.lim) HG.out BB.out))
                                clear cB fB lB HP BB
                                refine anyB_one (i := 21) (by kernel_rfl) rfl rfl ?_
                                intro wj hbj K hK
                                have hsj := hbj.size
                                (try simp at hsj)
                                go_wp2
                                refine ⟨xs_, ?_⟩
                                refine anyB_end (by kernel_rfl) ?_
                                intro wk hbk
                                have hsk := hbk.size
                                simp only [Calm]
                                have BE := Lib.hid ((BC.out.kept hbj).kept hbk)
                                have HPe := Lib.hid ((HPc.out.trans (hbj.mono HPc.out.size)).trans (hbk.mono (by have := HPc.out.size; omega)))
                                (try replace HG := Lib.hid (ms_kept (ms_kept HG.out hbj) hbk))
                                go_wp2_with fail
                                go_meet
                                case rel => exact ⟨wh.heap.size, g, rfl, rfl, BE.out, HG.out, HPe.out⟩
                            · skip
                              intro wh hbh K hK
                              have hsh := hbh.size
                              (try simp at hsh)
                              replace HP := Lib.hid (HP.out.trans (hbh.mono HP.out.size))
                              (try replace HG := Lib.hid (ms_kept HG.out hbh))
                              (try replace HMo := Lib.hid (ms_kept HMo.out hbh))
                              have hbx : Below wh.heap.size wh (wh.alloc (.cells #[.slice none 0 0, .int .i64 0, .int .i64 0, .int .i64 0, .int .i64 0] 35)) := (Below.refl _ _).alloc (Nat.le_refl _) _
                              replace HP := Lib.hid (HP.out.trans (hbx.mono HP.out.size))
                              (try replace HG := Lib.hid (ms_kept HG.out hbx))
                              (try replace HMo := Lib.hid (ms_kept HMo.out hbx))
                              have BB := Lib.hid (Blk.new wh 35 #[.slice none 0 0, .int .i64 0, .int .i64 0, .int .i64 0, .int .i64 0])
                              have hwh := HP.out.size
                              clear hbx
                              go_wp2
                              refine ⟨xs_, ?_⟩
                              refine anyB_one (i := 1) (by kernel_rfl) rfl rfl ?_
                              intro wa0 hba0 K hK
                              have hsa0 := hba0.size
                              (try simp at hsa0)
                              replace HP := Lib.hid (HP.out.trans (hba0.mono HP.out.size))
                              (try replace BB := Lib.hid (BB.out.kept hba0))
                              (try replace HG := Lib.hid (ms_kept HG.out hba0))
                              (try replace HMo := Lib.hid (ms_kept HMo.out hba0))
                              go_wp2_with fail
                              refine (HTo.out _ _ _ _ (ms_kept HM7.out HP.out)).mono ?_
                              rintro e wb0 ⟨At, ct, rfl, hm, hc, hbb0⟩
                              have hsb0 := hbb0.size
                              have HMo := Lib.hid hm; clear hm hc
                              replace HP := Lib.hid (HP.out.trans (hbb0.mono HP.out.size))
                              (try replace BB := Lib.hid (BB.out.kept hbb0))
                              go_wp2
                              refine ⟨xs_, ?_⟩
                              refine anyB_one (i := 2) (by kernel_rfl) rfl rfl ?_
                              intro wa1 hba1 K hK
                              have hsa1 := hba1.size
                              (try simp at hsa1)
                              replace HP := Lib.hid (HP.out.trans (hba1.mono HP.out.size))
                              (try replace BB := Lib.hid (BB.out.kept hba1))
                              (try replace HG := Lib.hid (ms_kept HG.out hba1))
                              (try replace HMo := Lib.hid (ms_kept HMo.out hba1))
                              go_wp2_with fail
                              refine (HOo.out _ _ _ _ HMo.out).mono ?_
                              rintro e wb1 ⟨Ao, co, rfl, hm, hc, hbb1⟩
                              have hsb1 := hbb1.size
                              replace HMo := Lib.hid hm; have HCo2 := Lib.hid hc; clear hm hc
                              replace HP := Lib.hid (HP.out.trans (hbb1.mono HP.out.size))
                              (try replace BB := Lib.hid (BB.out.kept hbb1))
                              go_wp2
                              refine ⟨xs_, ?_⟩
                              refine anyB_one (i := 15) (by kernel_rfl) rfl rfl ?_
                              intro wa2 hba2 K hK
                              have hsa2 := hba2.size
                              (try simp at hsa2)
                              replace HP := Lib.hid (HP.out.trans (hba2.mono HP.out.size))
                              (try replace BB := Lib.hid (BB.out.kept hba2))
                              (try replace HG := Lib.hid (ms_kept HG.out hba2))
                              (try replace HMo := Lib.hid (ms_kept HMo.out hba2))
                              go_wp2_with fail
                              refine (HRp.out _ _ _ HMo.out HCo2.out).mono ?_
                              rintro e wb2 ⟨g, rfl, hg9, hbb2⟩
                              have hsb2 := hbb2.size
                              clear HMo HCo2; have HG := Lib.hid hg9; clear hg9
                              replace HP := Lib.hid (HP.out.trans (hbb2.mono HP.out.size))
                              (try replace BB := Lib.hid (BB.out.kept hbb2))
                              go_wp2
                              refine ⟨xs_, ?_⟩
                              (refine anyB_quiet_at (by kernel_rfl) calm_panic xs_ 2 [16, 17, 18] _ _ (by kernel_rfl) (by decide +kernel) ?_; simp only [pickB, List.filterMap_cons, List.filterMap_nil, List.getElem?_toArray, List.getElem?_cons_zero, List.getElem?_cons_succ]; (repeat (first | ((first | (with_reducible refine quietL_plain rfl (fun K hK => ?_)) | (with_reducible refine quietL_want (by with_unfolding_all rfl) (fun K hK => ?_))); (apply Exists.intro; refine ⟨fun wx hx => ?_, ?_⟩; (· (have hcx := ifs_ex hx); simp [go_sem, *, ↓IntWalk.iteOmega] <;> (first | rfl | exact ⟨rfl, rfl⟩ | fail)); (simp only [Act.put, List.setIfInBounds_toArray, List.set_cons_zero, List.set_cons_succ]; refine hK _ ?_; clear hK K))) | ((with_reducible refine quietL_skip (by with_unfolding_all rfl) ?_); simp only [Act.put, List.setIfInBounds_toArray, List.set_cons_zero, List.set_cons_succ]))); refine quietL_nil ?_)
                              refine anyB_one (i := 20) (by kernel_rfl) rfl rfl ?_
                              intro wi hbi K hK
                              have hsi := hbi.size
                              (try simp at hsi)
                              replace HP := Lib.hid (HP.out.trans (hbi.mono HP.out.size))
                              replace BB := Lib.hid (BB.out.kept hbi)
                              (try replace HG := Lib.hid (ms_kept HG.out hbi))
                              (try replace HMo := Lib.hid (ms_kept HMo.out hbi))
                              have cB := BB.out.cell
                              have fB := BB.out.frozen
                              have lB := BB.out.lt
                              go_wp2
                              refine ⟨xs_, ?_⟩
                              have BC := Lib.hid (put5_blk (v0 := .slice (some ⟨g, 0, none⟩) n n) (v1 := .int .i64 a.lo) (v2 := .int .i64 a.hi) (v3 := .int .i64 a.cur) (v4 := .int .i64 a.lim) BB.out)
                              have HPc := Lib.hid (put5_low (b := wh.heap.size) (v0 := .slice (some ⟨g, 0, none⟩) n n) (v1 := .int .i64 a.lo) (v2 := .int .i64 a.hi) (v3 := .int .i64 a.cur) (v4 := .int .i64 a.lim) HP.out (by omega))
                              (try replace HG := Lib.hid (ms_put5 (b := wh.heap.size) (v0 := .slice (some ⟨g, 0, none⟩) n n) (v1 := .int .i64 a.lo) (v2 := .int .i64 a.hi) (v3 := .int .i64 a.cur) (v4 := .int .i64 a.lim) HG.out BB.out))
                              clear cB fB lB HP BB
                              refine anyB_one (i := 21) (by kernel_rfl) rfl rfl ?_
                              intro wj hbj K hK
                              have hsj := hbj.size
                              (try simp at hsj)
                              go_wp2
                              refine ⟨xs_, ?_⟩
                              refine anyB_end (by kernel_rfl) ?_
                              intro wk hbk
                              have hsk := hbk.size
                              simp only [Calm]
                              have BE := Lib.hid ((BC.out.kept hbj).kept hbk)
                              have HPe := Lib.hid ((HPc.out.trans (hbj.mono HPc.out.size)).trans (hbk.mono (by have := HPc.out.size; omega)))
                              (try replace HG := Lib.hid (ms_kept (ms_kept HG.out hbj) hbk))
                              go_wp2_with fail
                              go_meet
                              case rel => exact ⟨wh.heap.size, g, rfl, rfl, BE.out, HG.out, HPe.out⟩
                        clear z0 z1 z3 hbmw
                        rename World => w51
                        obtain ⟨b29, g29, rfl, rfl, h9, hy, hb⟩ := hcut
                        have HB9 := Lib.hid h9
                        have HM9 := Lib.hid hy
                        clear h9 hy HRp
                        clear cHA lHA cHB7 lHB7
                        have hs51 := hb.size
                        have HL' := Lib.hid (HL.out.trans (hb.mono HL.out.size)); clear HL; have HL := HL'; clear HL'
                        have HA' := Lib.hid (HA.out.kept hb); clear HA; have HA := HA'; clear HA'
                        have HB7' := Lib.hid (HB7.out.kept hb); clear HB7; have HB7 := HB7'; clear HB7'
                        have HM7' := Lib.hid (ms_kept HM7.out hb); clear HM7; have HM7 := HM7'; clear HM7'
                        clear hb
                        have cHA := HA.out.cell
                        have lHA := HA.out.lt
                        have cHB7 := HB7.out.cell
                        have lHB7 := HB7.out.lt
                        have cHB9 := HB9.out.cell
                        have lHB9 := HB9.out.lt
                        clear cHB7 lHB7
                        clear HB7
                        clear HM7
                        as_aux_lemma =>
                          have HMq := HM9
                          have HL39 := HL
                          have HBq := Lib.hid (Below.refl w51.heap.size w51)
                          have HOn := Lib.hid (rOwn_any w.heap.size (some ⟨bm, om, none⟩) n c a w51 (HMs.out.below HL.out) HL.out.size (by omega))
                          go_wp2_with fail
                          refine (HOn.out).mono ?_
                          rintro e w52 ⟨gw, cw, rfl, hgw, hb⟩
                          have hgl := hgw.lt.1
                          obtain ⟨rest, hgw⟩ := own_rest hgw
                          rw [HEl.out]
                          clear HOn
                          have HW := Lib.hid hgw
                          clear hgw
                          clear cHA lHA cHB9 lHB9
                          have hs52 := hb.size
                          have HL' := Lib.hid (HL.out.trans (hb.mono HL.out.size)); clear HL; have HL := HL'; clear HL'
                          have HA' := Lib.hid (HA.out.kept hb); clear HA; have HA := HA'; clear HA'
                          have HB9' := Lib.hid (HB9.out.kept hb); clear HB9; have HB9 := HB9'; clear HB9'
                          have HM9' := Lib.hid (ms_kept HM9.out hb); clear HM9; have HM9 := HM9'; clear HM9'
                          have HBq' := Lib.hid (HBq.out.trans (hb.mono HBq.out.size)); clear HBq; have HBq := HBq'; clear HBq'
                          clear hb
                          have cHA := HA.out.cell
                          have lHA := HA.out.lt
                          have cHB9 := HB9.out.cell
                          have lHB9 := HB9.out.lt
                          go_upto_region 40 with fail
                          refine wp_world ?_
                          intro w53 hW
                          have hb : Below w52.heap.size w52 w53 := by rw [hW]; exact (Below.refl _ _).alloc (Nat.le_refl _) _
                          have HD := Lib.hid (show Blk w53 w52.heap.size 26 #[.slice (some ⟨gw, 0, none⟩) n cw, .int .i64 a.lo, .int .i64 a.hi, .int .i64 a.cur, .int .i64 a.lim] from by rw [hW]; exact Blk.new _ _ _)
                          obtain ⟨bHD, hbHD⟩ : ∃ b, w52.heap.size = b := ⟨_, rfl⟩
                          rw [hbHD] at HD ⊢
                          clear hbHD hW
                          clear cHA lHA cHB9 lHB9
                          have hs53 := hb.size
                          have HL' := Lib.hid (HL.out.trans (hb.mono HL.out.size)); clear HL; have HL := HL'; clear HL'
                          have HA' := Lib.hid (HA.out.kept hb); clear HA; have HA := HA'; clear HA'
                          have HB9' := Lib.hid (HB9.out.kept hb); clear HB9; have HB9 := HB9'; clear HB9'
                          have HM9' := Lib.hid (ms_kept HM9.out hb); clear HM9; have HM9 := HM9'; clear HM9'
                          have HBq' := Lib.hid (HBq.out.trans (hb.mono HBq.out.size)); clear HBq; have HBq := HBq'; clear HBq'
                          have HW' := Lib.hid (HW.out.kept hb); clear HW; have HW := HW'; clear HW'
                          clear hb
                          have cHA := HA.out.cell
                          have lHA := HA.out.lt
                          have cHB9 := HB9.out.cell
                          have lHB9 := HB9.out.lt
                          have cHD := HD.out.cell
                          have lHD := HD.out.lt
                          have hlw := HW.out.lt
                          obtain ⟨y0, y1, y2, y3⟩ := mdr_cells HW.out HXj.out
                          dsimp only at y0 y1 y2 y3
                          have fW := HW.out.frozen
                          have k0 := HW.out.set_ (j * 4 + 2) (.bool false)
                          rw [mdr_set (x' := ⟨xn, xq, false, false⟩) HXj.out (by decide) rfl, HMR.out] at k0
                          have HW2 := Lib.hid k0
                          have hneD : bHD ≠ gw := blk_ne HD.out HW.out (by decide)
                          clear k0
                          go_upto_region 41 with fail
                          refine wp_world ?_
                          intro w54 hW
                          have HW3 := Lib.hid (show Blk w54 gw 74 (mds MR ++ rest).toArray from by rw [hW]; exact HW2.out)
                          have HD3 := Lib.hid (show Blk w54 bHD 26 #[.slice (some ⟨gw, 0, none⟩) n cw, .int .i64 a.lo, .int .i64 a.hi, .int .i64 a.cur, .int .i64 a.lim] from by rw [hW]; exact HD.out.far (p := ⟨gw, j * 4 + 2, none⟩) hneD (.bool false))
                          have HB3 := Lib.hid (show Blk w54 b29 35 #[.slice (some ⟨g29, 0, none⟩) n n, .int .i64 a.lo, .int .i64 a.hi, .int .i64 a.cur, .int .i64 a.lim] from by rw [hW]; exact HB9.out.far (p := ⟨gw, j * 4 + 2, none⟩) (blk_ne HB9.out HW.out (by decide)) (.bool false))
                          have HM3 := Lib.hid (show MsAt w54 w54.heap.size (some ⟨g29, 0, none⟩) n MR from by
                            rw [hW]
                            have e5 : ∀ (V : World) (p : Addr) (u : Value), (V.setCell p u).heap.size = V.heap.size := fun V p u => by simp [World.setCell]
                            exact ((HMq.out.below HBq.out).below ((Below.refl w51.heap.size w53).setCell (p := ⟨gw, j * 4 + 2, none⟩) hgl (.bool false))).more (by rw [e5]; exact HBq.out.size))
                          have hgw0 : w.heap.size ≤ gw := Nat.le_trans HL39.out.size hgl
                          have HL3 := Lib.hid (show Below w.heap.size w w54 from by rw [hW]; exact HL.out.setCell (p := ⟨gw, j * 4 + 2, none⟩) hgw0 (.bool false))
                          have HMW := Lib.hid (mdr_at HW3.out)
                          rw [hlR2.out] at HMW
                          clear hW y0 y1 y2 y3 fW hlw hneD HMq HBq HW2 HW HD HB9 HM9 HL cHA lHA cHB9 lHB9 cHD lHD
                          have cHD := HD3.out.cell
                          have lHD := HD3.out.lt
                          have cHB9 := HB3.out.cell
                          have lHB9 := HB3.out.lt
                          as_aux_lemma =>
                            (refine wp_region_calm [] [0, 1, 2, 3, 5] 4 (by kernel_rfl) rfl (by kernel_rfl) (by kernel_rfl) (by kernel_rfl) ?_; simp only [pickB, List.filterMap_cons, List.filterMap_nil, List.getElem?_toArray, List.getElem?_cons_zero, List.getElem?_cons_succ]; (repeat (first | ((first | (with_reducible refine quietL_plain rfl (fun K hK => ?_)) | (with_reducible refine quietL_want (by with_unfolding_all rfl) (fun K hK => ?_))); (apply Exists.intro; refine ⟨fun wx hx => ?_, ?_⟩; (· (have hcx := ifs_ex hx); simp [go_sem, *, ↓IntWalk.iteOmega] <;> (first | rfl | exact ⟨rfl, rfl⟩ | fail)); (simp only [Act.put, List.setIfInBounds_toArray, List.set_cons_zero, List.set_cons_succ]; refine hK _ ?_; clear hK K))) | ((with_reducible refine quietL_skip (by with_unfolding_all rfl) ?_); simp only [Act.put, List.setIfInBounds_toArray, List.set_cons_zero, List.set_cons_succ]))); refine quietL_nil ?_)
                            (refine anyB_one_want (i := 4) (by kernel_rfl) rfl (by kernel_rfl) ?_; intro w55 hb55 K hK; have hs55 := hb55.size; (try simp at hs55); go_wp2_with fail)
                            refine (HTo.out _ _ _ _ (ms_kept HM3.out hb55)).mono ?_
                            rintro e w56 ⟨At, ct, rfl, hm, _, hb56⟩
                            have hs56 := hb56.size
                            have HMt := Lib.hid hm; clear hm
                            (go_wp2; refine ⟨xs_, ?_⟩)
                            (refine anyB_one_want (i := 6) (by kernel_rfl) rfl (by kernel_rfl) ?_; intro w57 hb57 K hK; have hs57 := hb57.size; (try simp at hs57); go_wp2_with fail)
                            refine (HSa.out _ _ _ _ _ _ (ms_kept HMt.out hb57) (ms_kept (ms_kept (ms_kept HMW.out hb55) hb56) hb57)).mono ?_
                            rintro e w58 ⟨rfl, hb58⟩
                            have hs58 := hb58.size
                            clear HMt
                            (go_wp2; refine ⟨xs_, ?_⟩)
                            (refine anyB_quiet_at (by kernel_rfl) calm_panic xs_ 1 [7] _ _ (by kernel_rfl) (by decide +kernel) ?_; simp only [pickB, List.filterMap_cons, List.filterMap_nil, List.getElem?_toArray, List.getElem?_cons_zero, List.getElem?_cons_succ]; (repeat (first | ((first | (with_reducible refine quietL_plain rfl (fun K hK => ?_)) | (with_reducible refine quietL_want (by with_unfolding_all rfl) (fun K hK => ?_))); (apply Exists.intro; refine ⟨fun wx hx => ?_, ?_⟩; (· (have hcx := ifs_ex hx); simp [go_sem, *, ↓IntWalk.iteOmega] <;> (first | rfl | exact ⟨rfl, rfl⟩ | fail)); (simp only [Act.put, List.setIfInBounds_toArray, List.set_cons_zero, List.set_cons_succ]; refine hK _ ?_; clear hK K))) | ((with_reducible refine quietL_skip (by with_unfolding_all rfl) ?_); simp only [Act.put, List.setIfInBounds_toArray, List.set_cons_zero, List.set_cons_succ]))); refine quietL_nil ?_)
                            (refine anyB_one (i := 8) (by kernel_rfl) rfl rfl ?_; intro w59 hb59 K hK; have hs59 := hb59.size; (try simp at hs59); go_wp2; refine ⟨xs_, ?_⟩)
                            (refine anyB_end (by kernel_rfl) ?_; intro w60 hb60; have hs60 := hb60.size; (try simp at hs60); simp only [Calm])
                            have hb := hb55.trans ((hb56.trans ((hb57.trans ((hb58.trans ((hb59.trans ((hb60).mono hs59)).mono hs58)).mono hs57)).mono hs56)).mono hs55)
                            have HLz := Lib.hid (HL3.out.trans (hb.mono HL3.out.size))
                            clear hb hb55 hb56 hb57 hb58 hb59 hb60 cHD lHD cHB9 lHB9
                            go_wp2_with fail
                            go_ret
                            exact ⟨by first | rfl | (simp; done), HLz.out⟩
end Go.Proofs.YtfpjcnkfoehhmaaGreatDoor
