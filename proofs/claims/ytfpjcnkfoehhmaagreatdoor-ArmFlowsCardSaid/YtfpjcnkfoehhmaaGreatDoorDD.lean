/- The law ArmFlows. -/
import Derived.Test.YtfpjcnkfoehhmaaGreatDoorQr
import Derived.Test.YtfpjcnkfoehhmaaGreatDoorDB
import Derived.Test.YtfpjcnkfoehhmaaGreatDoorDC
import Derived.Test.YtfpjcnkfoehhmaaGreatDoorQl
import Derived.Test.YtfpjcnkfoehhmaaGreatDoorQn
import Derived.Test.YtfpjcnkfoehhmaaGreatDoorQf
import Derived.Test.YtfpjcnkfoehhmaaGreatDoorQh
import Derived.Test.YtfpjcnkfoehhmaaGreatDoorDG
namespace Go.Proofs.YtfpjcnkfoehhmaaGreatDoor
open Go Go.RowKit Go.Sort Go.Shelf
set_option linter.unusedSimpArgs false
set_option linter.unusedVariables false
attribute [local go_sem] cell_if frozen_if grow_cell
/-- Between two orders. -/
structure FwI (w : World) (nb : Nat) (A : Option Addr) (n c : Nat) (a : Ar) (A' : Option Addr) (c' : Nat) (m : List Md) (W : World) : Prop where
  bA : Blk W w.heap.size 26 #[.slice A n c, .int .i64 a.lo, .int .i64 a.hi, .int .i64 a.cur, .int .i64 a.lim]
  bN : Blk W nb 35 #[.slice A' n c', .int .i64 a.lo, .int .i64 a.hi, .int .i64 a.cur, .int .i64 a.lim]
  r : MsAt W W.heap.size A' n m
  nc : n ≤ c'
  low : Below w.heap.size w W
  lt : w.heap.size < nb
theorem FwI.kept {w : World} {nb : Nat} {A : Option Addr} {n c : Nat} {a : Ar} {A' : Option Addr} {c' : Nat} {m : List Md} {W W' : World} (h : FwI w nb A n c a A' c' m W) (hb : Below W.heap.size W W') : FwI w nb A n c a A' c' m W' :=
  ⟨h.bA.kept hb, h.bN.kept hb, ms_kept h.r hb, h.nc, h.low.trans (hb.mono h.low.size), h.lt⟩
/-- Between two modules of the next arm. -/
structure FlI (w : World) (nb ob b9 g : Nat) (A : Option Addr) (n c : Nat) (a : Ar) (A' : Option Addr) (c' : Nat) (m M : List Md) (o : Od) (W : World) : Prop where
  fw : FwI w nb A n c a A' c' m W
  nx : Blk W b9 35 #[.slice (some ⟨g, 0, none⟩) n n, .int .i64 a.lo, .int .i64 a.hi, .int .i64 a.cur, .int .i64 a.lim]
  row : Blk W g 73 (mds M).toArray
  ord : Blk W ob 68 #[.int .i64 o.n, .int .i64 o.c]
theorem FlI.kept {w : World} {nb ob b9 g : Nat} {A : Option Addr} {n c : Nat} {a : Ar} {A' : Option Addr} {c' : Nat} {m M : List Md} {o : Od} {W W' : World} (h : FlI w nb ob b9 g A n c a A' c' m M o W) (hb : Below W.heap.size W W') : FlI w nb ob b9 g A n c a A' c' m M o W' :=
  ⟨h.fw.kept hb, h.nx.kept hb, h.row.kept hb, h.ord.kept hb⟩
theorem FlI.ms {w : World} {nb ob b9 g : Nat} {A : Option Addr} {n c : Nat} {a : Ar} {A' : Option Addr} {c' : Nat} {m M : List Md} {o : Od} {W : World} (h : FlI w nb ob b9 g A n c a A' c' m M o W) (hM : M.length = n) : MsAt W W.heap.size (some ⟨g, 0, none⟩) n M :=
  (BlkArm.at (b := ⟨M, 0, 0, 0, 0⟩) h.row hM).more h.row.lt
theorem run_at {a b : Ar} {l : List Od} {k : Nat} (hk : k < l.length) (h : goTo a (l.take k) = some b) (h2 : stepE b l[k] ≠ 0) : runGo 0 a l = (nilA, k, stepE b l[k]) := by
  have := runGo_no (r := l.drop (k + 1)) h h2
  rw [← List.drop_eq_getElem_cons hk, List.take_append_drop, List.length_take, Nat.min_eq_left (Nat.le_of_lt hk)] at this
  exact this
theorem run_ok {a b : Ar} {l : List Od} {n : Nat} {w w' : World} {e : Ending} (hO : ordsE a l = 0) (hg : goTo a l = some b) (h : RunRes w a l n e w') : ∃ g, e = .returned (.tuple #[.agg #[.slice (some ⟨g, 0, none⟩) n n, .int .i64 a.lo, .int .i64 a.hi, .int .i64 a.cur, .int .i64 a.lim], .int .i64 0, .int .i64 0]) ∧ Blk w' g 73 (mds b.m).toArray ∧ Below w.heap.size w w' := by
  obtain ⟨hb, ⟨b', g, _, hg', he, hk⟩ | ⟨h1, _⟩ | ⟨j, b', hj, _, hg', hne, rfl⟩⟩ := h
  · rw [hg] at hg'
    cases hg'
    exact ⟨g, he, hk, hb⟩
  · exact absurd hO h1
  · have := run_at hj hg' hne
    rw [runGo_all hg] at this
    injection this with _ h2
    injection h2 with _ h3
    exact absurd h3.symm hne
theorem run_err {a : Ar} {l : List Od} {n k : Nat} {er : Int} {w w' : World} {e : Ending} (hO : ordsE a l = 0) (hr : runGo 0 a l = (nilA, k, er)) (h0 : er ≠ 0) (h : RunRes w a l n e w') : e = .returned (.tuple #[.agg #[.slice none 0 0, .int .i64 0, .int .i64 0, .int .i64 0, .int .i64 0], .int .i64 (k : Int), .int .i64 er]) ∧ Below w.heap.size w w' := by
  obtain ⟨hb, ⟨b, g, _, hg, _⟩ | ⟨h1, _⟩ | ⟨j, b, hj, _, hg, hne, rfl⟩⟩ := h
  · rw [runGo_all hg] at hr
    injection hr with _ h2
    injection h2 with _ h3
    exact absurd h3.symm h0
  · exact absurd hO h1
  · rw [run_at hj hg hne] at hr
    injection hr with _ h2
    injection h2 with h3 h4
    rw [h4, h3]
    exact ⟨rfl, hb⟩
theorem wrk_err {a : Ar} {l : List Od} {k : Nat} {er : Int} (hO : ordsE a l = 0) (hr : runGo 0 a l = (nilA, k, er)) : wrkE a l = er := by
  unfold wrkE folE
  rw [hO, or0_yes, hr]
set_option maxRecDepth 1000000 in
set_option maxHeartbeats 16000000 in
theorem flows_any (A A2 : Option Addr) (n c n2 c2 : Nat) (a : Ar) (l : List Od) (w : World) (hM : MsAt w w.heap.size A n a.m) (hn : n ≤ maxLen) (hnm : ∀ x ∈ a.m, x.n.size ≤ maxLen) (hO : Reads w w.heap.size 2 A2 n2 (ods l)) (hn2 : n2 ≤ maxLen) (hT : TabT w) :
    Calls Tryz.prog 5 #[.agg #[.slice A n c, .int .i64 a.lo, .int .i64 a.hi, .int .i64 a.cur, .int .i64 a.lim], .slice A2 n2 c2] w fun e w' => e = .returned (.bool true) ∧ Below w.heap.size w w' := by
  have hl := (md_at hM).1
  obtain ⟨hl2, hat2⟩ := od_at hO
  have hmx : maxLen = 9223372036854775807 := rfl
  rw [hmx] at hn hn2
  have HT := Lib.hid hT
  have HAw := Lib.hid (fun W (hW : Below w.heap.size w W) => awake_ok w W hT hW)
  have HVa := Lib.hid (fun W (hW : Below w.heap.size w W) => valid_any w.heap.size A n c a W (hM.below hW) hW.size hn hnm)
  clear hmx
  cases hv : validA a with
  | false =>
    rw [hv] at HVa
    clear hM hnm hl hv hO hl2 hat2
    go_enter Tryz.func5, Tryz.ntmps5
    go_wp2_with fail
    refine (HAw.out _ bl_).mono ?_
    rintro e w1 ⟨rfl, hb⟩
    have HA : Hid (Blk w1 w.heap.size 26 #[.slice A n c, .int .i64 a.lo, .int .i64 a.hi, .int .i64 a.cur, .int .i64 a.lim]) := Lib.hid ((Blk.new w _ _).kept hb)
    have hb := ((Below.refl _ _).alloc (Nat.le_refl _) _).trans (hb.mono (by simp))
    have hs1 := hb.size
    have HL := Lib.hid hb
    clear hb
    have cHA := HA.out.cell
    have lHA := HA.out.lt
    go_wp2_with fail
    refine (HVa.out _ HL.out).mono ?_
    rintro e w2 ⟨rfl, hb⟩
    clear cHA lHA
    have hs2 := hb.size
    have HL' := Lib.hid (HL.out.trans (hb.mono HL.out.size)); clear HL; have HL := HL'; clear HL'
    have HA' := Lib.hid (HA.out.kept hb); clear HA; have HA := HA'; clear HA'
    clear hb
    have cHA := HA.out.cell
    have lHA := HA.out.lt
    go_wp2_with fail
    refine (HAw.out _ HL.out).mono ?_
    rintro e w3 ⟨rfl, hb⟩
    clear cHA lHA
    have hs3 := hb.size
    have HL' := Lib.hid (HL.out.trans (hb.mono HL.out.size)); clear HL; have HL := HL'; clear HL'
    have HA' := Lib.hid (HA.out.kept hb); clear HA; have HA := HA'; clear HA'
    clear hb
    have cHA := HA.out.cell
    have lHA := HA.out.lt
    go_wp2_with fail
    go_ret
    exact ⟨rfl, HL.out⟩
  | true =>
    rw [hv] at HVa
    unfold validA at hv
    simp only [Bool.and_eq_true, decide_eq_true_eq, beq_iff_eq] at hv
    obtain ⟨⟨hsh, h8⟩, hE⟩ := hv
    have hF := short_fit hsh hnm
    rw [hl] at h8
    by_cases h28 : n2 ≤ 8
    case neg =>
      have hd : decide ((8 : Int) < (n2 : Int)) = true := by simp; omega
      clear hM hnm hO hat2 hF hE hsh
      go_enter Tryz.func5, Tryz.ntmps5
      go_wp2_with fail
      refine (HAw.out _ bl_).mono ?_
      rintro e w1 ⟨rfl, hb⟩
      have HA : Hid (Blk w1 w.heap.size 26 #[.slice A n c, .int .i64 a.lo, .int .i64 a.hi, .int .i64 a.cur, .int .i64 a.lim]) := Lib.hid ((Blk.new w _ _).kept hb)
      have hb := ((Below.refl _ _).alloc (Nat.le_refl _) _).trans (hb.mono (by simp))
      have hs1 := hb.size
      have HL := Lib.hid hb
      clear hb
      have cHA := HA.out.cell
      have lHA := HA.out.lt
      go_wp2_with fail
      refine (HVa.out _ HL.out).mono ?_
      rintro e w2 ⟨rfl, hb⟩
      clear cHA lHA
      have hs2 := hb.size
      have HL' := Lib.hid (HL.out.trans (hb.mono HL.out.size)); clear HL; have HL := HL'; clear HL'
      have HA' := Lib.hid (HA.out.kept hb); clear HA; have HA := HA'; clear HA'
      clear hb
      have cHA := HA.out.cell
      have lHA := HA.out.lt
      go_wp2_with fail
      refine (HAw.out _ HL.out).mono ?_
      rintro e w3 ⟨rfl, hb⟩
      clear cHA lHA
      have hs3 := hb.size
      have HL' := Lib.hid (HL.out.trans (hb.mono HL.out.size)); clear HL; have HL := HL'; clear HL'
      have HA' := Lib.hid (HA.out.kept hb); clear HA; have HA := HA'; clear HA'
      clear hb
      have cHA := HA.out.cell
      have lHA := HA.out.lt
      go_wp2_with fail
      go_ret
      exact ⟨rfl, HL.out⟩
    case pos =>
      have hd : decide ((8 : Int) < (n2 : Int)) = false := by simp; omega
      have HCo := Lib.hid (fun W (hW : Below w.heap.size w W) => rCheckOrders_any w.heap.size A2 n2 c2 l W (hO.below hW) hW.size (by unfold maxLen; omega))
      by_cases ho0 : rordsE l = 0
      case neg =>
        have hne : (rordsE l != 0) = true := by simpa using ho0
        generalize rordsE l = ro at *
        clear hM hnm hO hat2 hF hE hsh
        go_enter Tryz.func5, Tryz.ntmps5
        go_wp2_with fail
        refine (HAw.out _ bl_).mono ?_
        rintro e w1 ⟨rfl, hb⟩
        have HA : Hid (Blk w1 w.heap.size 26 #[.slice A n c, .int .i64 a.lo, .int .i64 a.hi, .int .i64 a.cur, .int .i64 a.lim]) := Lib.hid ((Blk.new w _ _).kept hb)
        have hb := ((Below.refl _ _).alloc (Nat.le_refl _) _).trans (hb.mono (by simp))
        have hs1 := hb.size
        have HL := Lib.hid hb
        clear hb
        have cHA := HA.out.cell
        have lHA := HA.out.lt
        go_wp2_with fail
        refine (HVa.out _ HL.out).mono ?_
        rintro e w2 ⟨rfl, hb⟩
        clear cHA lHA
        have hs2 := hb.size
        have HL' := Lib.hid (HL.out.trans (hb.mono HL.out.size)); clear HL; have HL := HL'; clear HL'
        have HA' := Lib.hid (HA.out.kept hb); clear HA; have HA := HA'; clear HA'
        clear hb
        have cHA := HA.out.cell
        have lHA := HA.out.lt
        go_wp2_with fail
        refine (HCo.out _ HL.out).mono ?_
        rintro e w3 ⟨rfl, hb⟩
        clear cHA lHA
        have hs3 := hb.size
        have HL' := Lib.hid (HL.out.trans (hb.mono HL.out.size)); clear HL; have HL := HL'; clear HL'
        have HA' := Lib.hid (HA.out.kept hb); clear HA; have HA := HA'; clear HA'
        clear hb
        have cHA := HA.out.cell
        have lHA := HA.out.lt
        go_wp2_with fail
        refine (HAw.out _ HL.out).mono ?_
        rintro e w4 ⟨rfl, hb⟩
        clear cHA lHA
        have hs4 := hb.size
        have HL' := Lib.hid (HL.out.trans (hb.mono HL.out.size)); clear HL; have HL := HL'; clear HL'
        have HA' := Lib.hid (HA.out.kept hb); clear HA; have HA := HA'; clear HA'
        clear hb
        have cHA := HA.out.cell
        have lHA := HA.out.lt
        go_wp2_with fail
        go_ret
        exact ⟨rfl, HL.out⟩
      case pos =>
        have hOE := ords_of hE ho0
        obtain ⟨_, ho⟩ := rords_zero ho0
        rw [ho0] at HCo
        have hFt := fit_of hE
        have HOw := Lib.hid (fun W (hW : Below w.heap.size w W) => own_r w.heap.size A n c a W (hM.below hW) hW.size (by omega))
        have HOd := Lib.hid (fun W (hW : Below w.heap.size w W) => orders_any w.heap.size A2 n2 c2 l W (hO.below hW) hW.size (by omega))
        have HA2 := Lib.hid hat2
        have HM := Lib.hid hM
        have HEn := Lib.hid (And.intro hE (And.intro ho (And.intro hF (And.intro hOE hl))))
        have hEl := hl2
        clear hM hnm hO hat2 hF hsh ho0 hOE hFt hE ho
        go_enter Tryz.func5, Tryz.ntmps5
        go_wp2_with fail
        refine (HAw.out _ bl_).mono ?_
        rintro e w1 ⟨rfl, hb⟩
        have HA : Hid (Blk w1 w.heap.size 26 #[.slice A n c, .int .i64 a.lo, .int .i64 a.hi, .int .i64 a.cur, .int .i64 a.lim]) := Lib.hid ((Blk.new w _ _).kept hb)
        have hb := ((Below.refl _ _).alloc (Nat.le_refl _) _).trans (hb.mono (by simp))
        have hs1 := hb.size
        have HL := Lib.hid hb
        clear hb
        have cHA := HA.out.cell
        have lHA := HA.out.lt
        go_wp2_with fail
        refine (HVa.out _ HL.out).mono ?_
        rintro e w2 ⟨rfl, hb⟩
        clear cHA lHA
        have hs2 := hb.size
        have HL' := Lib.hid (HL.out.trans (hb.mono HL.out.size)); clear HL; have HL := HL'; clear HL'
        have HA' := Lib.hid (HA.out.kept hb); clear HA; have HA := HA'; clear HA'
        clear hb
        have cHA := HA.out.cell
        have lHA := HA.out.lt
        go_wp2_with fail
        refine (HCo.out _ HL.out).mono ?_
        rintro e w3 ⟨rfl, hb⟩
        clear cHA lHA
        have hs3 := hb.size
        have HL' := Lib.hid (HL.out.trans (hb.mono HL.out.size)); clear HL; have HL := HL'; clear HL'
        have HA' := Lib.hid (HA.out.kept hb); clear HA; have HA := HA'; clear HA'
        clear hb
        have cHA := HA.out.cell
        have lHA := HA.out.lt
        go_wp2_with fail
        refine (HOw.out _ HL.out).mono ?_
        rintro e w4 ⟨A4, c4, rfl, hm, hc, hb⟩
        have HM4 := Lib.hid hm; have HC4 := Lib.hid hc; clear hm hc
        clear cHA lHA
        have hs4 := hb.size
        have HL' := Lib.hid (HL.out.trans (hb.mono HL.out.size)); clear HL; have HL := HL'; clear HL'
        have HA' := Lib.hid (HA.out.kept hb); clear HA; have HA := HA'; clear HA'
        clear hb
        have cHA := HA.out.cell
        have lHA := HA.out.lt
        go_wp2_with fail
        have hal : Below w4.heap.size w4 (w4.alloc (.cells #[.slice A4 n c4, .int .i64 a.lo, .int .i64 a.hi, .int .i64 a.cur, .int .i64 a.lim] 35)) := (Below.refl _ _).alloc (Nat.le_refl _) _
        have HFw : Hid (FwI w w4.heap.size A n c a A4 c4 a.m (w4.alloc (.cells #[.slice A4 n c4, .int .i64 a.lo, .int .i64 a.hi, .int .i64 a.cur, .int .i64 a.lim] 35))) := Lib.hid ⟨HA.out.kept hal, Blk.new _ _ _, ms_kept HM4.out hal, HC4.out, HL.out.trans (hal.mono HL.out.size), HA.out.lt⟩
        have hnb : w.heap.size < w4.heap.size := HA.out.lt
        clear hal HM4 HC4 HA cHA lHA
        generalize hnbb : w4.heap.size = nb at *
        generalize (w4.alloc _) = W0 at *
        go_loopw [6, 58] (fun s6 s58 wr => ∃ (k : Nat) (b : Ar) (A' : Option Addr) (c' : Nat), k ≤ n2 ∧ s58 = .int .i64 (k : Int) ∧ s6 = .int .i64 (ordSum (l.take k)) ∧ goTo a (l.take k) = some b ∧ FwI w nb A n c a A' c' b.m wr) (fun _ s58 _ => n2 - (intOf s58).toNat)
        case atStart => exact ⟨0, a, A4, c4, by omega, rfl, rfl, rfl, HFw.out⟩
        case round =>
          clear HFw HL HT
          obtain ⟨k, b, A', c', hk, rfl, rfl, hgo, hI⟩ := hrel
          obtain ⟨hEb, hS4⟩ := goTo_ok HEn.out.1 (fun x hx => HEn.out.2.1 x (List.mem_of_mem_take hx)) hgo
          have hFb := fit_step HEn.out.2.2.1 hS4
          have hbl := hS4.len
          have hbm := same_mk hS4
          have hsr := hI.low.size
          have HI := Lib.hid hI
          have cA := hI.bA.cell
          have lA := hI.bA.lt
          have cN := hI.bN.cell
          have lN := hI.bN.lt
          clear hI
          by_cases hlt : k < n2
          case neg =>
            obtain rfl : k = n2 := by omega
            rw [List.take_of_length_le (by omega)] at hgo
            as_aux_lemma =>
              have hEO := HEn.out
              obtain ⟨hs1, hs2⟩ := goTo_sums hEO.1 hEO.2.1 hgo
              have HSm : Hid (ordSum (l.take k) = ordSum l) := Lib.hid (by rw [List.take_of_length_le (by omega)])
              have hwk0 : wrkE a l = 0 := by unfold wrkE; rw [hEO.2.2.2.1, fol_all hgo, or0_yes]
              have hwv0 : wrkV a l = workL a l := by unfold wrkV; rw [if_pos hwk0]
              have hlv0 : logV a l = logL a l := by unfold logV; rw [if_pos hwk0]
              have hOE := hEO.2.2.2.1
              have hbln : b.m.length = n := by rw [hbl]; exact hEO.2.2.2.2
              have HRu := Lib.hid (fun W A A2 c c2 (hm : MsAt W W.heap.size A n a.m) (hc : n ≤ c) (hr : Reads W W.heap.size 2 A2 k (ods l)) => (Run_any W.heap.size W.heap.size A A2 n c k c2 a l W hm (Nat.le_refl _) hEO.2.2.1 hc hr (Nat.le_refl _) (by omega)).mono (fun e w' h => run_ok hOE hgo h))
              have HWk := Lib.hid (fun W A A2 c c2 (hm : MsAt W W.heap.size A n a.m) (hc : n ≤ c) (hr : Reads W W.heap.size 2 A2 k (ods l)) => Work_any W.heap.size W.heap.size A A2 n c k c2 a l W hm (Nat.le_refl _) hEO.2.2.1 hc hr (Nat.le_refl _) (by omega))
              have HLg := Lib.hid (fun W A A2 c c2 (hm : MsAt W W.heap.size A n a.m) (hc : n ≤ c) (hr : Reads W W.heap.size 2 A2 k (ods l)) => Log_any W.heap.size W.heap.size A A2 n c k c2 a l W hm (Nat.le_refl _) hEO.2.2.1 hc hr (Nat.le_refl _) (by omega))
              have HNa := Lib.hid (fun W A c (hm : MsAt W W.heap.size A n a.m) (hc : n ≤ c) => Energy_any W.heap.size A n c a W hm (Nat.le_refl _) hEO.2.2.1 hc hEO.1)
              have HNb := Lib.hid (fun W A c (hm : MsAt W W.heap.size A n b.m) (hc : n ≤ c) => Energy_any W.heap.size A n c b W hm (Nat.le_refl _) hFb hc hEb)
              have HTo := Lib.hid (fun W A c (hm : MsAt W W.heap.size A n b.m) => told_r W.heap.size A n c b W hm (Nat.le_refl _) (by omega))
              have HOo := Lib.hid (fun W A c (hm : MsAt W W.heap.size A n b.m) => own_r W.heap.size A n c b W hm (Nat.le_refl _) (by omega))
              have HSa := Lib.hid (fun W A1 A2 c1 c2 (h1 : MsAt W W.heap.size A1 n b.m) (h2 : MsAt W W.heap.size A2 n b.m) => Same_self W.heap.size W.heap.size A1 A2 n c1 c2 b W h1 h2 (Nat.le_refl _) (Nat.le_refl _) (by omega))
              rw [hbm] at HTo HOo HSa HNb HRu
              dsimp only at HTo HOo HSa HNb HRu
              rw [← hbm] at HNb
              rw [hwk0, hwv0] at HWk
              rw [hwk0, hlv0] at HLg
              rw [hs1] at HNb
              have hea := ener_bd (fit_of hEO.1)
              have heb := ener_bd (fit_of hEb)
              rw [hs1] at heb
              have hwr1 : IntKind.i64.wrap (enerL a + workL a l - enerL a) = workL a l := by rw [IntKind.wrap_i64]; omega
              have hwr2 : IntKind.i64.wrap (workL a l) = workL a l := by rw [IntKind.wrap_i64]; omega
              have HQa := Lib.hid (fit_of hEO.1).q
              have HQb := Lib.hid (fit_of hEb).q
              have HS2 := Lib.hid hs2
              have hll : (logL a l).length = k := by rw [log_len]; exact hEl
              have HLe := Lib.hid (fun (h0 : 0 < l.length) => log_end hgo h0)
              have hn0 := (fit_of hEO.1).n0
              have hn16 := (fit_of hEO.1).n16
              rw [hEO.2.2.2.2] at hn0 hn16
              generalize ordSum (l.take k) = sm at *
              generalize enerL a = ea at *
              generalize workL a l = wv at *
              generalize logL a l = lg at *
              have HA := Lib.hid HI.out.bA
              have HN := Lib.hid HI.out.bN
              have HL := Lib.hid HI.out.low
              clear hEb hS4 hFb hbl hOE hwk0 hwv0 hlv0 hs1 hs2 hgo hEO heb hea cA lA cN lN HAw HVa HCo
              have cHA := HA.out.cell
              have lHA := HA.out.lt
              have cHN := HN.out.cell
              have lHN := HN.out.lt
              go_wp2_with fail
              refine (HOw.out _ HL.out).mono ?_
              rintro e w10 ⟨A10, c10, rfl, hm, hc, hb⟩
              have HM10 := Lib.hid hm; have HC10 := Lib.hid hc; clear hm hc
              clear cHA lHA cHN lHN
              have hs10 := hb.size
              have HL' := Lib.hid (HL.out.trans (hb.mono HL.out.size)); clear HL; have HL := HL'; clear HL'
              have HI' := Lib.hid (HI.out.kept hb); clear HI; have HI := HI'; clear HI'
              have HA' := Lib.hid (HA.out.kept hb); clear HA; have HA := HA'; clear HA'
              have HN' := Lib.hid (HN.out.kept hb); clear HN; have HN := HN'; clear HN'
              clear hb
              have cHA := HA.out.cell
              have lHA := HA.out.lt
              have cHN := HN.out.cell
              have lHN := HN.out.lt
              go_wp2_with fail
              refine (HOd.out _ HL.out).mono ?_
              rintro e w11 ⟨A11, c11, rfl, hr, hc, hb⟩
              have HR11 := Lib.hid hr; clear hr hc; have HM102 := Lib.hid (ms_kept HM10.out hb); clear HM10
              clear cHA lHA cHN lHN
              have hs11 := hb.size
              have HL' := Lib.hid (HL.out.trans (hb.mono HL.out.size)); clear HL; have HL := HL'; clear HL'
              have HI' := Lib.hid (HI.out.kept hb); clear HI; have HI := HI'; clear HI'
              have HA' := Lib.hid (HA.out.kept hb); clear HA; have HA := HA'; clear HA'
              have HN' := Lib.hid (HN.out.kept hb); clear HN; have HN := HN'; clear HN'
              clear hb
              have cHA := HA.out.cell
              have lHA := HA.out.lt
              have cHN := HN.out.cell
              have lHN := HN.out.lt
              go_wp2_with fail
              refine (HRu.out _ _ _ _ _ HM102.out HC10.out HR11.out).mono ?_
              rintro e w12 ⟨g12, rfl, hg, hb⟩
              clear HM102 HC10 HR11
              clear cHA lHA cHN lHN
              have hs12 := hb.size
              have HL' := Lib.hid (HL.out.trans (hb.mono HL.out.size)); clear HL; have HL := HL'; clear HL'
              have HI' := Lib.hid (HI.out.kept hb); clear HI; have HI := HI'; clear HI'
              have HA' := Lib.hid (HA.out.kept hb); clear HA; have HA := HA'; clear HA'
              have HN' := Lib.hid (HN.out.kept hb); clear HN; have HN := HN'; clear HN'
              clear hb
              have cHA := HA.out.cell
              have lHA := HA.out.lt
              have cHN := HN.out.cell
              have lHN := HN.out.lt
              have HG := Lib.hid hg; clear hg
              go_wp2_with fail
              have hal : Below w12.heap.size w12 (w12.alloc (.cells #[.slice (some ⟨g12, 0, none⟩) n n, .int .i64 a.lo, .int .i64 a.hi, .int .i64 a.cur, .int .i64 a.lim] 35)) := (Below.refl _ _).alloc (Nat.le_refl _) _
              clear cHA lHA cHN lHN
              have HL' := Lib.hid (HL.out.trans (hal.mono HL.out.size)); clear HL; have HL := HL'; clear HL'
              have HI' := Lib.hid (HI.out.kept hal); clear HI; have HI := HI'; clear HI'
              have HA' := Lib.hid (HA.out.kept hal); clear HA; have HA := HA'; clear HA'
              have HN' := Lib.hid (HN.out.kept hal); clear HN; have HN := HN'; clear HN'
              have HG' := Lib.hid (HG.out.kept hal); clear HG; have HG := HG'; clear HG'
              have HE := Lib.hid (Blk.new w12 35 #[.slice (some ⟨g12, 0, none⟩) n n, .int .i64 a.lo, .int .i64 a.hi, .int .i64 a.cur, .int .i64 a.lim])
              clear hal
              generalize w12.heap.size = eb at *
              generalize gV : w12.alloc _ = V at *
              clear gV
              have cHA := HA.out.cell
              have lHA := HA.out.lt
              have cHN := HN.out.cell
              have lHN := HN.out.lt
              have cHE := HE.out.cell
              have lHE := HE.out.lt
              refine (HOw.out _ HL.out).mono ?_
              rintro e w13 ⟨A13, c13, rfl, hm, hc, hb⟩
              have HM13 := Lib.hid hm; have HC13 := Lib.hid hc; clear hm hc
              clear cHA lHA cHN lHN cHE lHE
              have hs13 := hb.size
              have HL' := Lib.hid (HL.out.trans (hb.mono HL.out.size)); clear HL; have HL := HL'; clear HL'
              have HI' := Lib.hid (HI.out.kept hb); clear HI; have HI := HI'; clear HI'
              have HA' := Lib.hid (HA.out.kept hb); clear HA; have HA := HA'; clear HA'
              have HN' := Lib.hid (HN.out.kept hb); clear HN; have HN := HN'; clear HN'
              have HG' := Lib.hid (HG.out.kept hb); clear HG; have HG := HG'; clear HG'
              have HE' := Lib.hid (HE.out.kept hb); clear HE; have HE := HE'; clear HE'
              clear hb
              have cHA := HA.out.cell
              have lHA := HA.out.lt
              have cHN := HN.out.cell
              have lHN := HN.out.lt
              have cHE := HE.out.cell
              have lHE := HE.out.lt
              go_wp2_with fail
              refine (HOd.out _ HL.out).mono ?_
              rintro e w14 ⟨A14, c14, rfl, hr, hc, hb⟩
              have HR14 := Lib.hid hr; clear hr hc; have HM132 := Lib.hid (ms_kept HM13.out hb); clear HM13
              clear cHA lHA cHN lHN cHE lHE
              have hs14 := hb.size
              have HL' := Lib.hid (HL.out.trans (hb.mono HL.out.size)); clear HL; have HL := HL'; clear HL'
              have HI' := Lib.hid (HI.out.kept hb); clear HI; have HI := HI'; clear HI'
              have HA' := Lib.hid (HA.out.kept hb); clear HA; have HA := HA'; clear HA'
              have HN' := Lib.hid (HN.out.kept hb); clear HN; have HN := HN'; clear HN'
              have HG' := Lib.hid (HG.out.kept hb); clear HG; have HG := HG'; clear HG'
              have HE' := Lib.hid (HE.out.kept hb); clear HE; have HE := HE'; clear HE'
              clear hb
              have cHA := HA.out.cell
              have lHA := HA.out.lt
              have cHN := HN.out.cell
              have lHN := HN.out.lt
              have cHE := HE.out.cell
              have lHE := HE.out.lt
              go_wp2_with fail
              refine (HWk.out _ _ _ _ _ HM132.out HC13.out HR14.out).mono ?_
              rintro e w15 ⟨rfl, hb⟩
              clear HM132 HC13 HR14
              clear cHA lHA cHN lHN cHE lHE
              have hs15 := hb.size
              have HL' := Lib.hid (HL.out.trans (hb.mono HL.out.size)); clear HL; have HL := HL'; clear HL'
              have HI' := Lib.hid (HI.out.kept hb); clear HI; have HI := HI'; clear HI'
              have HA' := Lib.hid (HA.out.kept hb); clear HA; have HA := HA'; clear HA'
              have HN' := Lib.hid (HN.out.kept hb); clear HN; have HN := HN'; clear HN'
              have HG' := Lib.hid (HG.out.kept hb); clear HG; have HG := HG'; clear HG'
              have HE' := Lib.hid (HE.out.kept hb); clear HE; have HE := HE'; clear HE'
              clear hb
              have cHA := HA.out.cell
              have lHA := HA.out.lt
              have cHN := HN.out.cell
              have lHN := HN.out.lt
              have cHE := HE.out.cell
              have lHE := HE.out.lt
              go_wp2_with fail
              refine (HOw.out _ HL.out).mono ?_
              rintro e w16 ⟨A16, c16, rfl, hm, hc, hb⟩
              have HM16 := Lib.hid hm; have HC16 := Lib.hid hc; clear hm hc
              clear cHA lHA cHN lHN cHE lHE
              have hs16 := hb.size
              have HL' := Lib.hid (HL.out.trans (hb.mono HL.out.size)); clear HL; have HL := HL'; clear HL'
              have HI' := Lib.hid (HI.out.kept hb); clear HI; have HI := HI'; clear HI'
              have HA' := Lib.hid (HA.out.kept hb); clear HA; have HA := HA'; clear HA'
              have HN' := Lib.hid (HN.out.kept hb); clear HN; have HN := HN'; clear HN'
              have HG' := Lib.hid (HG.out.kept hb); clear HG; have HG := HG'; clear HG'
              have HE' := Lib.hid (HE.out.kept hb); clear HE; have HE := HE'; clear HE'
              clear hb
              have cHA := HA.out.cell
              have lHA := HA.out.lt
              have cHN := HN.out.cell
              have lHN := HN.out.lt
              have cHE := HE.out.cell
              have lHE := HE.out.lt
              go_wp2_with fail
              refine (HNa.out _ _ _ HM16.out HC16.out).mono ?_
              rintro e w17 ⟨rfl, hb⟩
              clear HM16 HC16
              clear cHA lHA cHN lHN cHE lHE
              have hs17 := hb.size
              have HL' := Lib.hid (HL.out.trans (hb.mono HL.out.size)); clear HL; have HL := HL'; clear HL'
              have HI' := Lib.hid (HI.out.kept hb); clear HI; have HI := HI'; clear HI'
              have HA' := Lib.hid (HA.out.kept hb); clear HA; have HA := HA'; clear HA'
              have HN' := Lib.hid (HN.out.kept hb); clear HN; have HN := HN'; clear HN'
              have HG' := Lib.hid (HG.out.kept hb); clear HG; have HG := HG'; clear HG'
              have HE' := Lib.hid (HE.out.kept hb); clear HE; have HE := HE'; clear HE'
              clear hb
              have cHA := HA.out.cell
              have lHA := HA.out.lt
              have cHN := HN.out.cell
              have lHN := HN.out.lt
              have cHE := HE.out.cell
              have lHE := HE.out.lt
              go_wp2_with fail
              refine (HTo.out _ _ _ HI.out.r).mono ?_
              rintro e w18 ⟨A18, c18, rfl, hm, hc, hb⟩
              have HM18 := Lib.hid hm; have HC18 := Lib.hid hc; clear hm hc; clear HC18
              clear cHA lHA cHN lHN cHE lHE
              have hs18 := hb.size
              have HL' := Lib.hid (HL.out.trans (hb.mono HL.out.size)); clear HL; have HL := HL'; clear HL'
              have HI' := Lib.hid (HI.out.kept hb); clear HI; have HI := HI'; clear HI'
              have HA' := Lib.hid (HA.out.kept hb); clear HA; have HA := HA'; clear HA'
              have HN' := Lib.hid (HN.out.kept hb); clear HN; have HN := HN'; clear HN'
              have HG' := Lib.hid (HG.out.kept hb); clear HG; have HG := HG'; clear HG'
              have HE' := Lib.hid (HE.out.kept hb); clear HE; have HE := HE'; clear HE'
              clear hb
              have cHA := HA.out.cell
              have lHA := HA.out.lt
              have cHN := HN.out.cell
              have lHN := HN.out.lt
              have cHE := HE.out.cell
              have lHE := HE.out.lt
              go_wp2_with fail
              refine (HOo.out _ _ _ HM18.out).mono ?_
              rintro e w19 ⟨A19, c19, rfl, hm, hc, hb⟩
              have HM19 := Lib.hid hm; have HC19 := Lib.hid hc; clear hm hc; clear HM18
              clear cHA lHA cHN lHN cHE lHE
              have hs19 := hb.size
              have HL' := Lib.hid (HL.out.trans (hb.mono HL.out.size)); clear HL; have HL := HL'; clear HL'
              have HI' := Lib.hid (HI.out.kept hb); clear HI; have HI := HI'; clear HI'
              have HA' := Lib.hid (HA.out.kept hb); clear HA; have HA := HA'; clear HA'
              have HN' := Lib.hid (HN.out.kept hb); clear HN; have HN := HN'; clear HN'
              have HG' := Lib.hid (HG.out.kept hb); clear HG; have HG := HG'; clear HG'
              have HE' := Lib.hid (HE.out.kept hb); clear HE; have HE := HE'; clear HE'
              clear hb
              have cHA := HA.out.cell
              have lHA := HA.out.lt
              have cHN := HN.out.cell
              have lHN := HN.out.lt
              have cHE := HE.out.cell
              have lHE := HE.out.lt
              go_wp2_with fail
              refine (HNb.out _ _ _ HM19.out HC19.out).mono ?_
              rintro e w20 ⟨rfl, hb⟩
              clear HM19 HC19
              clear cHA lHA cHN lHN cHE lHE
              have hs20 := hb.size
              have HL' := Lib.hid (HL.out.trans (hb.mono HL.out.size)); clear HL; have HL := HL'; clear HL'
              have HI' := Lib.hid (HI.out.kept hb); clear HI; have HI := HI'; clear HI'
              have HA' := Lib.hid (HA.out.kept hb); clear HA; have HA := HA'; clear HA'
              have HN' := Lib.hid (HN.out.kept hb); clear HN; have HN := HN'; clear HN'
              have HG' := Lib.hid (HG.out.kept hb); clear HG; have HG := HG'; clear HG'
              have HE' := Lib.hid (HE.out.kept hb); clear HE; have HE := HE'; clear HE'
              clear hb
              have cHA := HA.out.cell
              have lHA := HA.out.lt
              have cHN := HN.out.cell
              have lHN := HN.out.lt
              have cHE := HE.out.cell
              have lHE := HE.out.lt
              go_wp2_with fail
              refine (HOw.out _ HL.out).mono ?_
              rintro e w21 ⟨A21, c21, rfl, hm, hc, hb⟩
              have HM21 := Lib.hid hm; have HC21 := Lib.hid hc; clear hm hc
              clear cHA lHA cHN lHN cHE lHE
              have hs21 := hb.size
              have HL' := Lib.hid (HL.out.trans (hb.mono HL.out.size)); clear HL; have HL := HL'; clear HL'
              have HI' := Lib.hid (HI.out.kept hb); clear HI; have HI := HI'; clear HI'
              have HA' := Lib.hid (HA.out.kept hb); clear HA; have HA := HA'; clear HA'
              have HN' := Lib.hid (HN.out.kept hb); clear HN; have HN := HN'; clear HN'
              have HG' := Lib.hid (HG.out.kept hb); clear HG; have HG := HG'; clear HG'
              have HE' := Lib.hid (HE.out.kept hb); clear HE; have HE := HE'; clear HE'
              clear hb
              have cHA := HA.out.cell
              have lHA := HA.out.lt
              have cHN := HN.out.cell
              have lHN := HN.out.lt
              have cHE := HE.out.cell
              have lHE := HE.out.lt
              go_wp2_with fail
              refine (HOd.out _ HL.out).mono ?_
              rintro e w22 ⟨A22, c22, rfl, hr, hc, hb⟩
              have HR22 := Lib.hid hr; clear hr hc; have HM212 := Lib.hid (ms_kept HM21.out hb); clear HM21
              clear cHA lHA cHN lHN cHE lHE
              have hs22 := hb.size
              have HL' := Lib.hid (HL.out.trans (hb.mono HL.out.size)); clear HL; have HL := HL'; clear HL'
              have HI' := Lib.hid (HI.out.kept hb); clear HI; have HI := HI'; clear HI'
              have HA' := Lib.hid (HA.out.kept hb); clear HA; have HA := HA'; clear HA'
              have HN' := Lib.hid (HN.out.kept hb); clear HN; have HN := HN'; clear HN'
              have HG' := Lib.hid (HG.out.kept hb); clear HG; have HG := HG'; clear HG'
              have HE' := Lib.hid (HE.out.kept hb); clear HE; have HE := HE'; clear HE'
              clear hb
              have cHA := HA.out.cell
              have lHA := HA.out.lt
              have cHN := HN.out.cell
              have lHN := HN.out.lt
              have cHE := HE.out.cell
              have lHE := HE.out.lt
              go_wp2_with fail
              refine (HLg.out _ _ _ _ _ HM212.out HC21.out HR22.out).mono ?_
              rintro e w23 ⟨v23, vs23, rfl, hr, _, hin, hb⟩
              clear HM212 HC21 HR22
              obtain ⟨Al, cl, rfl, _, _, hrd⟩ := own_form hr
              rw [hll] at hrd ⊢
              have HRd := Lib.hid hrd
              have HIn := Lib.hid hin
              clear hr hrd hin
              clear cHA lHA cHN lHN cHE lHE
              have hs23 := hb.size
              have HL' := Lib.hid (HL.out.trans (hb.mono HL.out.size)); clear HL; have HL := HL'; clear HL'
              have HI' := Lib.hid (HI.out.kept hb); clear HI; have HI := HI'; clear HI'
              have HA' := Lib.hid (HA.out.kept hb); clear HA; have HA := HA'; clear HA'
              have HN' := Lib.hid (HN.out.kept hb); clear HN; have HN := HN'; clear HN'
              have HG' := Lib.hid (HG.out.kept hb); clear HG; have HG := HG'; clear HG'
              have HE' := Lib.hid (HE.out.kept hb); clear HE; have HE := HE'; clear HE'
              clear hb
              have cHA := HA.out.cell
              have lHA := HA.out.lt
              have cHN := HN.out.cell
              have lHN := HN.out.lt
              have cHE := HE.out.cell
              have lHE := HE.out.lt
              go_wp2_with fail
              go_cut [282] (fun s282 wx => s282 = .bool false ∧ Below w23.heap.size w23 wx)
              case first =>
                as_aux_lemma =>
                  clear HRu HWk HLg HNa HNb HOw HOd HOo HRd HIn HLe HQa HQb HS2 HSm hs2
                  (refine wp_region_calm [] [0, 1, 2, 3, 4, 5, 6, 7, 8, 9, 10, 11, 12, 13, 14, 15, 16, 17, 18, 19, 20, 21, 22, 23, 25] 19 (by kernel_rfl) rfl (by kernel_rfl) (by kernel_rfl) (by kernel_rfl) ?_; simp only [pickB, List.filterMap_cons, List.filterMap_nil, List.getElem?_toArray, List.getElem?_cons_zero, List.getElem?_cons_succ]; (repeat (first | ((first | (with_reducible refine quietL_plain rfl (fun K hK => ?_)) | (with_reducible refine quietL_want (by with_unfolding_all rfl) (fun K hK => ?_))); (apply Exists.intro; refine ⟨fun wx hx => ?_, ?_⟩; (· (have hcx := ifs_ex hx); simp [go_sem, *, ↓IntWalk.iteOmega] <;> (first | rfl | exact ⟨rfl, rfl⟩ | fail)); (simp only [Act.put, List.setIfInBounds_toArray, List.set_cons_zero, List.set_cons_succ]; refine hK _ ?_; clear hK K))) | ((with_reducible refine quietL_skip (by with_unfolding_all rfl) ?_); simp only [Act.put, List.setIfInBounds_toArray, List.set_cons_zero, List.set_cons_succ]))); refine quietL_nil ?_)
                  (refine anyB_one_want (i := 24) (by kernel_rfl) rfl (by kernel_rfl) ?_; intro w40 hb40 K hK; have hs40 := hb40.size; (try simp at hs40); go_wp2_with fail)
                  refine (HTo.out _ _ _ ((show MsAt w23 w23.heap.size (some ⟨g12, 0, none⟩) n b.m from (BlkArm.at (b := b) HG.out hbln).more HG.out.lt).below hb40 |>.more hb40.size)).mono ?_
                  rintro e w41 ⟨A41, c41, rfl, hm41, _, hb41⟩
                  have hs41 := hb41.size
                  have HM41 := Lib.hid hm41
                  clear hm41
                  (go_wp2; refine ⟨xs_, ?_⟩)
                  (refine anyB_one_want (i := 26) (by kernel_rfl) rfl (by kernel_rfl) ?_; intro w42 hb42 K hK; have hs42 := hb42.size; (try simp at hs42); go_wp2_with fail)
                  refine (HTo.out _ _ _ (((HI.out.kept hb40).kept hb41).kept hb42).r).mono ?_
                  rintro e w43 ⟨A43, c43, rfl, hm43, _, hb43⟩
                  have hs43 := hb43.size
                  have HM43 := Lib.hid hm43
                  clear hm43
                  (go_wp2; refine ⟨xs_, ?_⟩)
                  (refine anyB_one_want (i := 27) (by kernel_rfl) rfl (by kernel_rfl) ?_; intro w44 hb44 K hK; have hs44 := hb44.size; (try simp at hs44); go_wp2_with fail)
                  refine (HSa.out _ _ _ _ _ (ms_kept (ms_kept (ms_kept HM41.out hb42) hb43) hb44) (ms_kept HM43.out hb44)).mono ?_
                  rintro e w45 ⟨rfl, hb45⟩
                  have hs45 := hb45.size
                  (go_wp2; refine ⟨xs_, ?_⟩)
                  (refine anyB_quiet_at (by kernel_rfl) calm_panic xs_ 0 [28, 29, 30, 31, 32, 33, 34, 35, 36, 37, 38, 39, 40, 41, 42, 43] _ _ (by kernel_rfl) (by decide +kernel) ?_; simp only [pickB, List.filterMap_cons, List.filterMap_nil, List.getElem?_toArray, List.getElem?_cons_zero, List.getElem?_cons_succ]; (repeat (first | ((first | (with_reducible refine quietL_plain rfl (fun K hK => ?_)) | (with_reducible refine quietL_want (by with_unfolding_all rfl) (fun K hK => ?_))); (apply Exists.intro; refine ⟨fun wx hx => ?_, ?_⟩; (· (have hcx := ifs_ex hx); simp [go_sem, *, ↓IntWalk.iteOmega] <;> (first | rfl | exact ⟨rfl, rfl⟩ | fail)); (simp only [Act.put, List.setIfInBounds_toArray, List.set_cons_zero, List.set_cons_succ]; refine hK _ ?_; clear hK K))) | ((with_reducible refine quietL_skip (by with_unfolding_all rfl) ?_); simp only [Act.put, List.setIfInBounds_toArray, List.set_cons_zero, List.set_cons_succ]))); refine quietL_nil ?_)
                  (refine anyB_end (by kernel_rfl) ?_; intro w46 hb46; have hs46 := hb46.size; (try simp at hs46); simp only [Calm])
                  have hB := hb40.trans ((hb41.trans ((hb42.trans ((hb43.trans ((hb44.trans ((hb45.trans (hb46.mono hs45)).mono hb44.size)).mono hs43)).mono hb42.size)).mono hs41)).mono hb40.size)
                  have HB := Lib.hid hB
                  clear hB hb40 hb41 hb42 hb43 hb44 hb45 hb46
                  go_wp2_with fail
                  go_meet
                  case rel => exact ⟨rfl, HB.out⟩
              rename World => w50
              obtain ⟨rfl, hb⟩ := hcut
              have HLn := Lib.hid (fun (p : Nat) (hp : p + 1 = k) => log_cells (n := n) HRd.out HIn.out hp (HLe.out (by omega) |> fun h => (by rw [hEl] at h; rwa [show k - 1 = p by omega] at h)) hbln hn0)
              have HLg2 : Hid (∀ p : Nat, p + 1 = k → ∃ b1 o1 bu ou cu, Al = some ⟨b1, o1, none⟩ ∧ LgI b1 (o1 + p) bu ou n cu b.m w50) := Lib.hid (fun p hp => by
                obtain ⟨b1, o1, bu, ou, cu, h1, h2⟩ := HLn.out p hp
                exact ⟨b1, o1, bu, ou, cu, h1, h2.kept hb⟩)
              have HI' := Lib.hid (HI.out.kept hb); clear HI; have HI := HI'; clear HI'
              have hsb := ordSum_bd (l := l) HEn.out.2.1
              rw [hEl] at hsb
              have hsm := HSm.out
              rw [← hsm] at hsb
              have HE0 : Hid (sm + sumI Md.q a.m - sumI Md.q b.m = 0) := Lib.hid (by have := HS2.out; omega)
              clear hb HLn HRu HWk HLg HNa HNb HOw HOd HOo HRd HIn HLe HS2 HSm HSa HTo HG HE HA HN HL cHA lHA cHN lHN cHE lHE hsm hs2
              have cA := HI.out.bA.cell
              have lA := HI.out.bA.lt
              have cN := HI.out.bN.cell
              have lN := HI.out.bN.lt
              go_upto_block 4 with fail
              go_cut [6] (fun s6 wx => s6 = .int .i64 0 ∧ Below w.heap.size w wx)
              case first =>
                as_aux_lemma =>
                  go_wp2_with fail
                  go_loopw [6, 286] (fun s6 s286 wr => ∃ q : Nat, q ≤ n ∧ s286 = .int .i64 (q : Int) ∧ s6 = .int .i64 (sm + sumI Md.q (a.m.take q) - sumI Md.q (b.m.take q)) ∧ Below w50.heap.size w50 wr) (fun _ s286 _ => n - (intOf s286).toNat)
                  case atStart => exact ⟨0, by omega, rfl, by rw [List.take_zero, List.take_zero]; exact congrArg _ (by show sm = sm + 0 - 0; omega), Below.refl _ _⟩
                  case round =>
                    clear cA lA cN lN
                    obtain ⟨q, hq, rfl, rfl, hbw⟩ := hrel
                    have HIq := Lib.hid (HI.out.kept hbw)
                    have HBw := Lib.hid hbw
                    have cA := HIq.out.bA.cell
                    have lA := HIq.out.bA.lt
                    have cN := HIq.out.bN.cell
                    have lN := HIq.out.bN.lt
                    have hsr := HIq.out.low.size
                    have hsw := hbw.size
                    clear hbw
                    have hba := q_bd (k := q) HQa.out (by rw [HEn.out.2.2.2.2]; omega)
                    have hbb := q_bd (k := q) HQb.out (by rw [hbln]; omega)
                    by_cases hlt : q < n
                    · have hqa : q < a.m.length := by rw [HEn.out.2.2.2.2]; exact hlt
                      have hqb : q < b.m.length := by omega
                      obtain ⟨_, hatA⟩ := md_at (HM.out.below HIq.out.low)
                      obtain ⟨ba, oa, ea', hbaa, y0, z1, y2, y3⟩ := hatA q hqa
                      clear y0 y2 y3
                      obtain ⟨_, hatB⟩ := md_at HIq.out.r
                      obtain ⟨bb, ob, eb', hbbb, x0, x1, x2, x3⟩ := hatB q hqb
                      have HSA := Lib.hid (sumI_take Md.q hqa)
                      have HSB := Lib.hid (sumI_take Md.q hqb)
                      have hza := HQa.out _ (List.getElem_mem hqa)
                      have hxb := HQb.out _ (List.getElem_mem hqb)
                      have HFo : Hid (FloatKind.f32.format.order (smp (b.m[q]).q) (smp (b.m[q]).q) = some Ordering.eq) := Lib.hid (by
                        have := smp_eq hxb
                        unfold eqF at this
                        exact eq_of_beq this)
                      have HLq : Hid (∀ p : Nat, p + 1 = k → ∃ b1 o1 bu ou cu, Al = some ⟨b1, o1, none⟩ ∧ b1 < wr.heap.size ∧ wr.cell? ⟨b1, o1 + p, none⟩ = some (.slice (some ⟨bu, ou, none⟩) n cu) ∧ bu < wr.heap.size ∧ wr.cell? ⟨bu, ou + q, none⟩ = some (.float .f32 (smp (b.m[q]).q))) := Lib.hid (fun p hp => by
                        obtain ⟨b1, o1, bu, ou, cu, h1, h2⟩ := HLg2.out p hp
                        have h3 := h2.kept HBw.out
                        exact ⟨b1, o1, bu, ou, cu, h1, h3.lt1, h3.c1, h3.lt2, h3.c2 q hqb⟩)
                      clear hatA hatB
                      generalize (a.m[q]).q = za at *
                      generalize b.m[q] = x at *
                      clear hqa hqb
                      obtain ⟨xn, xq, xo, xb⟩ := x
                      dsimp only at x0 x1 x2 x3 HSB hxb HFo HLq
                      have hbaw : ba < wr.heap.size := by omega
                      generalize sumI Md.q (a.m.take q) = sa at *
                      generalize sumI Md.q (b.m.take q) = sb at *
                      have hw1 : IntKind.i64.wrap (za - xq) = za - xq := by rw [IntKind.wrap_i64]; omega
                      have hw2 : IntKind.i64.wrap (sm + sa - sb + (za - xq)) = sm + sa - sb + (za - xq) := by rw [IntKind.wrap_i64]; omega
                      subst ea'
                      subst eb'
                      rcases Nat.eq_zero_or_pos k with hk0 | hk0
                      · skip
                        as_aux_lemma =>
                          clear HLq HLg2
                          have hkz : ¬ (0 : Int) < (k : Int) := by omega
                          have hkz2 : ¬ 0 < k := by omega
                          clear hk0
                          go_upto_region 43 with fail
                          refine wp_world ?_
                          intro W0 hW0
                          have hb0 : Below wr.heap.size wr W0 := by rw [hW0]; exact bl_
                          have bX0 : Blk W0 wr.heap.size 73 #[.string xn, .int .i64 xq, .bool xo, .bool xb] := by rw [hW0]; exact bk_
                          clear hW0 cA lA cN lN x0 x1 x2 x3
                          have z1 := (hb0.cell (p := ⟨ba, oa + q * 4 + 1, none⟩) hbaw).trans z1
                          have hs0 := hb0.size
                          have hbaw0 : ba < W0.heap.size := by omega
                          have bA0 := HIq.out.bA.kept hb0
                          have bN0 := HIq.out.bN.kept hb0
                          have cA := bA0.cell
                          have lA := bA0.lt
                          have cX := bX0.cell
                          have lX := bX0.lt
                          (refine wp_region_calm [] [0, 1, 2, 3, 4, 5, 6, 7, 8, 9, 10] 1 (by kernel_rfl) rfl (by kernel_rfl) (by kernel_rfl) (by kernel_rfl) ?_; simp only [pickB, List.filterMap_cons, List.filterMap_nil, List.getElem?_toArray, List.getElem?_cons_zero, List.getElem?_cons_succ]; (repeat (first | ((first | (with_reducible refine quietL_plain rfl (fun K hK => ?_)) | (with_reducible refine quietL_want (by with_unfolding_all rfl) (fun K hK => ?_))); (apply Exists.intro; refine ⟨fun wx hx => ?_, ?_⟩; (· (have hcx := ifs_ex hx); simp [go_sem, *, ↓IntWalk.iteOmega] <;> (first | rfl | exact ⟨rfl, rfl⟩ | fail)); (simp only [Act.put, List.setIfInBounds_toArray, List.set_cons_zero, List.set_cons_succ]; refine hK _ ?_; clear hK K))) | ((with_reducible refine quietL_skip (by with_unfolding_all rfl) ?_); simp only [Act.put, List.setIfInBounds_toArray, List.set_cons_zero, List.set_cons_succ]))); refine quietL_nil ?_)
                          (refine anyB_one (i := 11) (by kernel_rfl) rfl rfl ?_; intro w51 hb51 K hK; have hs51 := hb51.size; (try simp at hs51); go_wp2; refine ⟨xs_, ?_⟩)
                          (refine anyB_end (by kernel_rfl) ?_; intro w52 hb52; have hs52 := hb52.size; (try simp at hs52); simp only [Calm])
                          have hb02 := hb51.trans (hb52.mono hb51.size)
                          have hB43 := hb0.trans (hb02.mono hs0)
                          have bX2 := bX0.kept hb02
                          have bN2 := bN0.kept hb02
                          have hs52' := hB43.size
                          clear cA lA cX lX bA0 bN0 bX0 hb0 hb51 hb52 hb02 z1
                          have cX := bX2.cell
                          have lX := bX2.lt
                          have cN := bN2.cell
                          have lN := bN2.lt
                          go_wp2_with fail
                          (refine wp_region_calm [] [0, 1, 2, 3, 4, 5, 6, 7, 8, 9, 10, 11, 12, 13, 14, 15, 16, 17, 18, 19, 20, 21, 22, 23, 24, 25, 26, 27, 28, 29, 30] 0 (by kernel_rfl) rfl (by kernel_rfl) (by kernel_rfl) (by kernel_rfl) ?_; simp only [pickB, List.filterMap_cons, List.filterMap_nil, List.getElem?_toArray, List.getElem?_cons_zero, List.getElem?_cons_succ]; (repeat (first | ((first | (with_reducible refine quietL_plain rfl (fun K hK => ?_)) | (with_reducible refine quietL_want (by with_unfolding_all rfl) (fun K hK => ?_))); (apply Exists.intro; refine ⟨fun wx hx => ?_, ?_⟩; (· (have hcx := ifs_ex hx); simp [go_sem, *, ↓IntWalk.iteOmega] <;> (first | rfl | exact ⟨rfl, rfl⟩ | fail)); (simp only [Act.put, List.setIfInBounds_toArray, List.set_cons_zero, List.set_cons_succ]; refine hK _ ?_; clear hK K))) | ((with_reducible refine quietL_skip (by with_unfolding_all rfl) ?_); simp only [Act.put, List.setIfInBounds_toArray, List.set_cons_zero, List.set_cons_succ]))); refine quietL_nil ?_)
                          (refine anyB_end (by kernel_rfl) ?_; intro w53 hb53; have hs53 := hb53.size; (try simp at hs53); simp only [Calm])
                          have hBe := HBw.out.trans ((hB43.trans (hb53.mono hs52')).mono hsw)
                          have HBe := Lib.hid hBe
                          clear hBe hB43 hb53 cX lX cN lN bX2 bN2
                          go_wp2_with fail
                          go_roundw
                          case rel => exact ⟨q + 1, by omega, by go_num, by rw [HSA.out, HSB.out]; exact congrArg _ (by omega), HBe.out⟩
                          case measure => simp [intOf]; omega
                      · skip
                        as_aux_lemma =>
                          obtain ⟨p, hp⟩ : ∃ p, p + 1 = k := ⟨k - 1, by omega⟩
                          obtain ⟨b1, o1, bu, ou, cu, rfl, hl1, cl1, hl2, cl2⟩ := HLq.out p hp
                          have hkp : (0 : Int) < (k : Int) := by omega
                          have hsub : (k : Int) - 1 = (p : Int) := by omega
                          have hwk : IntKind.i64.wrap (k : Int) = (k : Int) := by rw [IntKind.wrap_i64]; omega
                          have hwp : IntKind.i64.wrap (p : Int) = (p : Int) := by rw [IntKind.wrap_i64]; omega
                          have hpk : (p : Int) < (k : Int) := by omega
                          have hpk2 : p < k := by omega
                          have hfo := HFo.out
                          have HHp := Lib.hid hp
                          clear HLq HLg2 hp
                          go_upto_region 43 with fail
                          refine wp_world ?_
                          intro W0 hW0
                          have hb0 : Below wr.heap.size wr W0 := by rw [hW0]; exact bl_
                          have bX0 : Blk W0 wr.heap.size 73 #[.string xn, .int .i64 xq, .bool xo, .bool xb] := by rw [hW0]; exact bk_
                          clear hW0 cA lA cN lN x0 x1 x2 x3
                          have z1 := (hb0.cell (p := ⟨ba, oa + q * 4 + 1, none⟩) hbaw).trans z1
                          have hs0 := hb0.size
                          have hbaw0 : ba < W0.heap.size := by omega
                          have bA0 := HIq.out.bA.kept hb0
                          have bN0 := HIq.out.bN.kept hb0
                          have cA := bA0.cell
                          have lA := bA0.lt
                          have cX := bX0.cell
                          have lX := bX0.lt
                          (refine wp_region_calm [] [0, 1, 2, 3, 4, 5, 6, 7, 8, 9, 10] 1 (by kernel_rfl) rfl (by kernel_rfl) (by kernel_rfl) (by kernel_rfl) ?_; simp only [pickB, List.filterMap_cons, List.filterMap_nil, List.getElem?_toArray, List.getElem?_cons_zero, List.getElem?_cons_succ]; (repeat (first | ((first | (with_reducible refine quietL_plain rfl (fun K hK => ?_)) | (with_reducible refine quietL_want (by with_unfolding_all rfl) (fun K hK => ?_))); (apply Exists.intro; refine ⟨fun wx hx => ?_, ?_⟩; (· (have hcx := ifs_ex hx); simp [go_sem, *, ↓IntWalk.iteOmega] <;> (first | rfl | exact ⟨rfl, rfl⟩ | fail)); (simp only [Act.put, List.setIfInBounds_toArray, List.set_cons_zero, List.set_cons_succ]; refine hK _ ?_; clear hK K))) | ((with_reducible refine quietL_skip (by with_unfolding_all rfl) ?_); simp only [Act.put, List.setIfInBounds_toArray, List.set_cons_zero, List.set_cons_succ]))); refine quietL_nil ?_)
                          (refine anyB_one (i := 11) (by kernel_rfl) rfl rfl ?_; intro w51 hb51 K hK; have hs51 := hb51.size; (try simp at hs51); go_wp2; refine ⟨xs_, ?_⟩)
                          (refine anyB_end (by kernel_rfl) ?_; intro w52 hb52; have hs52 := hb52.size; (try simp at hs52); simp only [Calm])
                          have hb02 := hb51.trans (hb52.mono hb51.size)
                          have hB43 := hb0.trans (hb02.mono hs0)
                          have bX2 := bX0.kept hb02
                          have bN2 := bN0.kept hb02
                          have hs52' := hB43.size
                          clear cA lA cX lX bA0 bN0 bX0 hb0 hb51 hb52 hb02 z1
                          have cX := bX2.cell
                          have lX := bX2.lt
                          have cN := bN2.cell
                          have lN := bN2.lt
                          have cl1 := (hB43.cell (p := ⟨b1, o1 + p, none⟩) hl1).trans cl1
                          have cl2 := (hB43.cell (p := ⟨bu, ou + q, none⟩) hl2).trans cl2
                          have hl1w : b1 < w52.heap.size := by omega
                          have hl2w : bu < w52.heap.size := by omega
                          go_wp2_with fail
                          (refine wp_region_calm [] [0, 1, 2, 3, 4, 5, 6, 7, 8, 9, 10, 11, 12, 13, 14, 15, 16, 17, 18, 19, 20, 21, 22, 23, 24, 25, 26, 27, 28, 29, 30] 0 (by kernel_rfl) rfl (by kernel_rfl) (by kernel_rfl) (by kernel_rfl) ?_; simp only [pickB, List.filterMap_cons, List.filterMap_nil, List.getElem?_toArray, List.getElem?_cons_zero, List.getElem?_cons_succ]; (repeat (first | ((first | (with_reducible refine quietL_plain rfl (fun K hK => ?_)) | (with_reducible refine quietL_want (by with_unfolding_all rfl) (fun K hK => ?_))); (apply Exists.intro; refine ⟨fun wx hx => ?_, ?_⟩; (· (have hcx := ifs_ex hx); simp [go_sem, *, ↓IntWalk.iteOmega] <;> (first | rfl | exact ⟨rfl, rfl⟩ | (with_reducible exact calls_B (calls_below (Sample_any _ _))))); (simp only [Act.put, List.setIfInBounds_toArray, List.set_cons_zero, List.set_cons_succ]; refine hK _ ?_; clear hK K))) | ((with_reducible refine quietL_skip (by with_unfolding_all rfl) ?_); simp only [Act.put, List.setIfInBounds_toArray, List.set_cons_zero, List.set_cons_succ]))); refine quietL_nil ?_)
                          (refine anyB_end (by kernel_rfl) ?_; intro w53 hb53; have hs53 := hb53.size; (try simp at hs53); simp only [Calm])
                          have hBe := HBw.out.trans ((hB43.trans (hb53.mono hs52')).mono hsw)
                          have HBe := Lib.hid hBe
                          clear hBe hB43 hb53 cX lX cN lN bX2 bN2
                          go_wp2_with fail
                          go_roundw
                          case rel => exact ⟨q + 1, by omega, by go_num, by rw [HSA.out, HSB.out]; exact congrArg _ (by omega), HBe.out⟩
                          case measure => simp [intOf]; omega
                    · obtain rfl : q = n := by omega
                      go_wp2_with fail
                      go_meet
                      case rel => exact ⟨by rw [List.take_of_length_le (by rw [HEn.out.2.2.2.2]; exact Nat.le_refl _), List.take_of_length_le (by omega), HE0.out], HIq.out.low⟩
              rename World => w60
              obtain ⟨rfl, hb⟩ := hcut
              have HL := Lib.hid hb
              clear hb HI cA lA cN lN
              go_wp2_with fail
              go_ret
              exact ⟨rfl, HL.out⟩
          case pos =>
            have hkl : k < l.length := by omega
            have hok : orderE l[k] = 0 := HEn.out.2.1 _ (List.getElem_mem hkl)
            obtain ⟨bo, oo, eA2, hbo, z0, z1⟩ := HA2.out k hkl
            have kb : ∀ i, wr.cell? ⟨bo, i, none⟩ = w.cell? ⟨bo, i, none⟩ := fun i => HI.out.low.cell (p := ⟨bo, i, none⟩) hbo
            rw [← kb] at z0 z1
            clear kb
            have hbw : bo < wr.heap.size := by omega
            have hOz := order_zero hok
            have hstp := stp_eq (b := b) hEb hok
            have HGo := Lib.hid hgo
            have HEb := Lib.hid (And.intro hEb (And.intro hFb (And.intro hbl hok)))
            have HTo := Lib.hid (fun W (hm : MsAt W W.heap.size A' n b.m) => told_r W.heap.size A' n c' b W hm (Nat.le_refl _) (by omega))
            have HOo := Lib.hid (fun W A c (hm : MsAt W W.heap.size A n b.m) => own_r W.heap.size A n c b W hm (Nat.le_refl _) (by omega))
            have HSt := Lib.hid (fun W A c (hm : MsAt W W.heap.size A n b.m) (hc : n ≤ c) => Step_any W.heap.size A n c b l[k] W hm (Nat.le_refl _) hFb hc)
            rw [hstp] at HSt
            subst eA2
            have hbln : b.m.length = n := by rw [hbl]; exact HEn.out.2.2.2.2
            rw [hbm] at HTo HOo HSt
            unfold StepRes at HSt
            dsimp only at HTo HOo HSt
            rw [hbln] at HSt
            rw [← hbm] at HSt
            have HTk : Hid (l.take (k + 1) = l.take k ++ [l[k]]) := Lib.hid (List.take_succ_eq_append_getElem hkl)
            have HNo := Lib.hid (fun h => run_at hkl hgo h)
            have hsb := ordSum_bd (l := l.take k) (fun x hx => HEn.out.2.1 x (List.mem_of_mem_take hx))
            have hob := od_bd hok
            have htl : (l.take k).length = k := by rw [List.length_take]; omega
            rw [htl] at hsb
            clear hgo hstp hbl hEb hFb hS4 hok htl
            generalize l[k] = o at *
            go_upto_region 8 with fail
            have hb8 : Below wr.heap.size wr (wr.alloc (.cells #[.int .i64 o.n, .int .i64 o.c] 68)) := (Below.refl _ _).alloc (Nat.le_refl _) _
            have HI8 := Lib.hid (HI.out.kept hb8)
            have HOx := Lib.hid (Blk.new wr 68 #[.int .i64 o.n, .int .i64 o.c])
            have HBm := Lib.hid hbm
            clear hb8 z0 z1 cA lA cN lN HI hbm hbo
            generalize (wr.alloc _) = w8 at *
            generalize wr.heap.size = ob at *
            have cA := HI8.out.bA.cell
            have lA := HI8.out.bA.lt
            have cN := HI8.out.bN.cell
            have lN := HI8.out.bN.lt
            have cO := HOx.out.cell
            have lO := HOx.out.lt
            have HP := Lib.hid (Below.refl w8.heap.size w8)
            have hs8 := HI8.out.low.size
            obtain ⟨er, her⟩ : ∃ er, stepE b o = er := ⟨_, rfl⟩
            have HEr := Lib.hid her
            rw [her] at HSt HNo
            by_cases h0 : er = 0
            case neg =>
              have HS0 := Lib.hid (fun W A c hm hc => (HSt.out W A c hm hc).mono (fun e w' (h : _ ∧ _) => show e = .returned (.tuple #[.agg #[.slice none 0 0, .int .i64 0, .int .i64 0, .int .i64 0, .int .i64 0], .int .i64 er]) ∧ Below W.heap.size W w' from by
                obtain ⟨hb, ⟨h1, _⟩ | ⟨_, h1⟩⟩ := h
                · exact absurd h1 h0
                · exact ⟨h1, hb⟩))
              have HRn := Lib.hid (HNo.out h0)
              clear HSt HNo
              go_cut [9, 10] (fun s9 s10 wx => ∃ b9 : Nat, s9 = .pointer (some ⟨b9, 0, none⟩) ∧ s10 = .int .i64 er ∧ Below w8.heap.size w8 wx)
              case first =>
                as_aux_lemma =>
                  (refine wp_region_calm [] [0, 3] 9 (by kernel_rfl) rfl (by kernel_rfl) (by kernel_rfl) (by kernel_rfl) ?_; simp only [pickB, List.filterMap_cons, List.filterMap_nil, List.getElem?_toArray, List.getElem?_cons_zero, List.getElem?_cons_succ]; (repeat (first | ((first | (with_reducible refine quietL_plain rfl (fun K hK => ?_)) | (with_reducible refine quietL_want (by with_unfolding_all rfl) (fun K hK => ?_))); (apply Exists.intro; refine ⟨fun wx hx => ?_, ?_⟩; (· (have hcx := ifs_ex hx); simp [go_sem, *, ↓IntWalk.iteOmega] <;> (first | rfl | exact ⟨rfl, rfl⟩ | skip)); (simp only [Act.put, List.setIfInBounds_toArray, List.set_cons_zero, List.set_cons_succ]; refine hK _ ?_; clear hK K))) | ((with_reducible refine quietL_skip (by with_unfolding_all rfl) ?_); simp only [Act.put, List.setIfInBounds_toArray, List.set_cons_zero, List.set_cons_succ]))); refine quietL_nil ?_)
                  refine anyB_two (i := 1) (j := 8) (by kernel_rfl) rfl rfl rfl rfl ?_ ?_
                  · skip
                    intro wa hba K hK
                    have hsa := hba.size
                    (try simp at hsa)
                    replace HP := Lib.hid (HP.out.trans (hba.mono HP.out.size))
                    (try replace BB := Lib.hid (BB.out.kept hba))
                    (try replace HMt := Lib.hid (ms_kept HMt.out hba))
                    (try replace HMo := Lib.hid (ms_kept HMo.out hba))
                    go_wp2_with fail
                    refine (HTo.out _ (ms_kept HI8.out.r HP.out)).mono ?_
                    rintro e wb ⟨At, ct, rfl, hm, hc, hbb⟩
                    have hsb := hbb.size
                    have HMt := Lib.hid hm; clear hm hc
                    replace HP := Lib.hid (HP.out.trans (hbb.mono HP.out.size))
                    (try replace BB := Lib.hid (BB.out.kept hbb))
                    go_wp2
                    refine ⟨xs_, ?_⟩
                    refine anyB_two (i := 2) (j := 8) (by kernel_rfl) rfl rfl rfl rfl ?_ ?_
                    · skip
                      intro wc hbc K hK
                      have hsc := hbc.size
                      (try simp at hsc)
                      replace HP := Lib.hid (HP.out.trans (hbc.mono HP.out.size))
                      (try replace BB := Lib.hid (BB.out.kept hbc))
                      (try replace HMt := Lib.hid (ms_kept HMt.out hbc))
                      (try replace HMo := Lib.hid (ms_kept HMo.out hbc))
                      go_wp2_with fail
                      refine (HOo.out _ _ _ HMt.out).mono ?_
                      rintro e wd ⟨Ao, co, rfl, hm, hc, hbd⟩
                      have hsd := hbd.size
                      have HMo := Lib.hid hm; have HCo2 := Lib.hid hc; clear hm hc HMt
                      replace HP := Lib.hid (HP.out.trans (hbd.mono HP.out.size))
                      (try replace BB := Lib.hid (BB.out.kept hbd))
                      go_wp2
                      refine ⟨xs_, ?_⟩
                      refine anyB_two (i := 4) (j := 8) (by kernel_rfl) rfl rfl rfl rfl ?_ ?_
                      · skip
                        intro we hbe K hK
                        have hse := hbe.size
                        (try simp at hse)
                        replace HP := Lib.hid (HP.out.trans (hbe.mono HP.out.size))
                        (try replace BB := Lib.hid (BB.out.kept hbe))
                        (try replace HMt := Lib.hid (ms_kept HMt.out hbe))
                        (try replace HMo := Lib.hid (ms_kept HMo.out hbe))
                        go_wp2_with fail
                        refine (HS0.out _ _ _ HMo.out HCo2.out).mono ?_
                        rintro e wf ⟨rfl, hbf⟩
                        have hsf := hbf.size
                        clear HMo HCo2
                        replace HP := Lib.hid (HP.out.trans (hbf.mono HP.out.size))
                        (try replace BB := Lib.hid (BB.out.kept hbf))
                        go_wp2
                        refine ⟨xs_, ?_⟩
                        (refine anyB_quiet_at (by kernel_rfl) calm_panic xs_ 3 [5, 6, 7] _ _ (by kernel_rfl) (by decide +kernel) ?_; simp only [pickB, List.filterMap_cons, List.filterMap_nil, List.getElem?_toArray, List.getElem?_cons_zero, List.getElem?_cons_succ]; (repeat (first | ((first | (with_reducible refine quietL_plain rfl (fun K hK => ?_)) | (with_reducible refine quietL_want (by with_unfolding_all rfl) (fun K hK => ?_))); (apply Exists.intro; refine ⟨fun wx hx => ?_, ?_⟩; (· (have hcx := ifs_ex hx); simp [go_sem, *, ↓IntWalk.iteOmega] <;> (first | rfl | exact ⟨rfl, rfl⟩ | fail)); (simp only [Act.put, List.setIfInBounds_toArray, List.set_cons_zero, List.set_cons_succ]; refine hK _ ?_; clear hK K))) | ((with_reducible refine quietL_skip (by with_unfolding_all rfl) ?_); simp only [Act.put, List.setIfInBounds_toArray, List.set_cons_zero, List.set_cons_succ]))); refine quietL_nil ?_)
                        refine anyB_one (i := 8) (by kernel_rfl) rfl rfl ?_
                        intro wh hbh K hK
                        have hsh := hbh.size
                        (try simp at hsh)
                        replace HP := Lib.hid (HP.out.trans (hbh.mono HP.out.size))
                        (try replace HMt := Lib.hid (ms_kept HMt.out hbh))
                        (try replace HMo := Lib.hid (ms_kept HMo.out hbh))
                        (try replace HG := Lib.hid (HG.out.kept hbh))
                        have hbx : Below wh.heap.size wh (wh.alloc (.cells #[.slice none 0 0, .int .i64 0, .int .i64 0, .int .i64 0, .int .i64 0] 35)) := (Below.refl _ _).alloc (Nat.le_refl _) _
                        replace HP := Lib.hid (HP.out.trans (hbx.mono HP.out.size))
                        (try replace HMt := Lib.hid (ms_kept HMt.out hbx))
                        (try replace HMo := Lib.hid (ms_kept HMo.out hbx))
                        (try replace HG := Lib.hid (HG.out.kept hbx))
                        have BB := Lib.hid (Blk.new wh 35 #[.slice none 0 0, .int .i64 0, .int .i64 0, .int .i64 0, .int .i64 0])
                        clear hbx
                        go_wp2
                        refine ⟨xs_, ?_⟩
                        refine anyB_one (i := 9) (by kernel_rfl) rfl rfl ?_
                        intro wi hbi K hK
                        have hsi := hbi.size
                        (try simp at hsi)
                        replace HP := Lib.hid (HP.out.trans (hbi.mono HP.out.size))
                        replace BB := Lib.hid (BB.out.kept hbi)
                        (try replace HG := Lib.hid (HG.out.kept hbi))
                        have cB := BB.out.cell
                        have fB := BB.out.frozen
                        have lB := BB.out.lt
                        go_wp2
                        refine ⟨xs_, ?_⟩
                        have BC := Lib.hid (put5_blk (v0 := .slice none 0 0) (v1 := .int .i64 0) (v2 := .int .i64 0) (v3 := .int .i64 0) (v4 := .int .i64 0) BB.out)
                        have HPc := Lib.hid (put5_low (b := wh.heap.size) (v0 := .slice none 0 0) (v1 := .int .i64 0) (v2 := .int .i64 0) (v3 := .int .i64 0) (v4 := .int .i64 0) HP.out (by omega))
                        (try have HGc := Lib.hid (put5_far (b := wh.heap.size) (v0 := .slice none 0 0) (v1 := .int .i64 0) (v2 := .int .i64 0) (v3 := .int .i64 0) (v4 := .int .i64 0) HG.out (blk_ne HG.out BB.out (by decide))))
                        clear cB fB lB HP BB
                        refine anyB_one (i := 10) (by kernel_rfl) rfl rfl ?_
                        intro wj hbj K hK
                        have hsj := hbj.size
                        (try simp at hsj)
                        go_wp2
                        refine ⟨xs_, ?_⟩
                        refine anyB_end (by kernel_rfl) ?_
                        intro wk hbk
                        have hsk := hbk.size
                        simp only [Calm]
                        have BE := Lib.hid ((BC.out.kept hbj).kept hbk)
                        have HPe := Lib.hid ((HPc.out.trans (hbj.mono HPc.out.size)).trans (hbk.mono (by have := HPc.out.size; omega)))
                        (try have HGe := Lib.hid ((HGc.out.kept hbj).kept hbk))
                        go_wp2_with fail
                        go_meet
                        case rel => exact ⟨wh.heap.size, rfl, rfl, HPe.out⟩
                      · skip
                        intro wh hbh K hK
                        have hsh := hbh.size
                        (try simp at hsh)
                        replace HP := Lib.hid (HP.out.trans (hbh.mono HP.out.size))
                        (try replace HMt := Lib.hid (ms_kept HMt.out hbh))
                        (try replace HMo := Lib.hid (ms_kept HMo.out hbh))
                        (try replace HG := Lib.hid (HG.out.kept hbh))
                        have hbx : Below wh.heap.size wh (wh.alloc (.cells #[.slice none 0 0, .int .i64 0, .int .i64 0, .int .i64 0, .int .i64 0] 35)) := (Below.refl _ _).alloc (Nat.le_refl _) _
                        replace HP := Lib.hid (HP.out.trans (hbx.mono HP.out.size))
                        (try replace HMt := Lib.hid (ms_kept HMt.out hbx))
                        (try replace HMo := Lib.hid (ms_kept HMo.out hbx))
                        (try replace HG := Lib.hid (HG.out.kept hbx))
                        have BB := Lib.hid (Blk.new wh 35 #[.slice none 0 0, .int .i64 0, .int .i64 0, .int .i64 0, .int .i64 0])
                        clear hbx
                        go_wp2
                        refine ⟨xs_, ?_⟩
                        refine anyB_one (i := 4) (by kernel_rfl) rfl rfl ?_
                        intro we hbe K hK
                        have hse := hbe.size
                        (try simp at hse)
                        replace HP := Lib.hid (HP.out.trans (hbe.mono HP.out.size))
                        (try replace BB := Lib.hid (BB.out.kept hbe))
                        (try replace HMt := Lib.hid (ms_kept HMt.out hbe))
                        (try replace HMo := Lib.hid (ms_kept HMo.out hbe))
                        go_wp2_with fail
                        refine (HS0.out _ _ _ HMo.out HCo2.out).mono ?_
                        rintro e wf ⟨rfl, hbf⟩
                        have hsf := hbf.size
                        clear HMo HCo2
                        replace HP := Lib.hid (HP.out.trans (hbf.mono HP.out.size))
                        (try replace BB := Lib.hid (BB.out.kept hbf))
                        go_wp2
                        refine ⟨xs_, ?_⟩
                        (refine anyB_quiet_at (by kernel_rfl) calm_panic xs_ 2 [5, 6, 7] _ _ (by kernel_rfl) (by decide +kernel) ?_; simp only [pickB, List.filterMap_cons, List.filterMap_nil, List.getElem?_toArray, List.getElem?_cons_zero, List.getElem?_cons_succ]; (repeat (first | ((first | (with_reducible refine quietL_plain rfl (fun K hK => ?_)) | (with_reducible refine quietL_want (by with_unfolding_all rfl) (fun K hK => ?_))); (apply Exists.intro; refine ⟨fun wx hx => ?_, ?_⟩; (· (have hcx := ifs_ex hx); simp [go_sem, *, ↓IntWalk.iteOmega] <;> (first | rfl | exact ⟨rfl, rfl⟩ | fail)); (simp only [Act.put, List.setIfInBounds_toArray, List.set_cons_zero, List.set_cons_succ]; refine hK _ ?_; clear hK K))) | ((with_reducible refine quietL_skip (by with_unfolding_all rfl) ?_); simp only [Act.put, List.setIfInBounds_toArray, List.set_cons_zero, List.set_cons_succ]))); refine quietL_nil ?_)
                        refine anyB_one (i := 9) (by kernel_rfl) rfl rfl ?_
                        intro wi hbi K hK
                        have hsi := hbi.size
                        (try simp at hsi)
                        replace HP := Lib.hid (HP.out.trans (hbi.mono HP.out.size))
                        replace BB := Lib.hid (BB.out.kept hbi)
                        (try replace HG := Lib.hid (HG.out.kept hbi))
                        have cB := BB.out.cell
                        have fB := BB.out.frozen
                        have lB := BB.out.lt
                        go_wp2
                        refine ⟨xs_, ?_⟩
                        have BC := Lib.hid (put5_blk (v0 := .slice none 0 0) (v1 := .int .i64 0) (v2 := .int .i64 0) (v3 := .int .i64 0) (v4 := .int .i64 0) BB.out)
                        have HPc := Lib.hid (put5_low (b := wh.heap.size) (v0 := .slice none 0 0) (v1 := .int .i64 0) (v2 := .int .i64 0) (v3 := .int .i64 0) (v4 := .int .i64 0) HP.out (by omega))
                        (try have HGc := Lib.hid (put5_far (b := wh.heap.size) (v0 := .slice none 0 0) (v1 := .int .i64 0) (v2 := .int .i64 0) (v3 := .int .i64 0) (v4 := .int .i64 0) HG.out (blk_ne HG.out BB.out (by decide))))
                        clear cB fB lB HP BB
                        refine anyB_one (i := 10) (by kernel_rfl) rfl rfl ?_
                        intro wj hbj K hK
                        have hsj := hbj.size
                        (try simp at hsj)
                        go_wp2
                        refine ⟨xs_, ?_⟩
                        refine anyB_end (by kernel_rfl) ?_
                        intro wk hbk
                        have hsk := hbk.size
                        simp only [Calm]
                        have BE := Lib.hid ((BC.out.kept hbj).kept hbk)
                        have HPe := Lib.hid ((HPc.out.trans (hbj.mono HPc.out.size)).trans (hbk.mono (by have := HPc.out.size; omega)))
                        (try have HGe := Lib.hid ((HGc.out.kept hbj).kept hbk))
                        go_wp2_with fail
                        go_meet
                        case rel => exact ⟨wh.heap.size, rfl, rfl, HPe.out⟩
                    · skip
                      intro wh hbh K hK
                      have hsh := hbh.size
                      (try simp at hsh)
                      replace HP := Lib.hid (HP.out.trans (hbh.mono HP.out.size))
                      (try replace HMt := Lib.hid (ms_kept HMt.out hbh))
                      (try replace HMo := Lib.hid (ms_kept HMo.out hbh))
                      (try replace HG := Lib.hid (HG.out.kept hbh))
                      have hbx : Below wh.heap.size wh (wh.alloc (.cells #[.slice none 0 0, .int .i64 0, .int .i64 0, .int .i64 0, .int .i64 0] 35)) := (Below.refl _ _).alloc (Nat.le_refl _) _
                      replace HP := Lib.hid (HP.out.trans (hbx.mono HP.out.size))
                      (try replace HMt := Lib.hid (ms_kept HMt.out hbx))
                      (try replace HMo := Lib.hid (ms_kept HMo.out hbx))
                      (try replace HG := Lib.hid (HG.out.kept hbx))
                      have BB := Lib.hid (Blk.new wh 35 #[.slice none 0 0, .int .i64 0, .int .i64 0, .int .i64 0, .int .i64 0])
                      clear hbx
                      go_wp2
                      refine ⟨xs_, ?_⟩
                      refine anyB_one (i := 2) (by kernel_rfl) rfl rfl ?_
                      intro wc hbc K hK
                      have hsc := hbc.size
                      (try simp at hsc)
                      replace HP := Lib.hid (HP.out.trans (hbc.mono HP.out.size))
                      (try replace BB := Lib.hid (BB.out.kept hbc))
                      (try replace HMt := Lib.hid (ms_kept HMt.out hbc))
                      (try replace HMo := Lib.hid (ms_kept HMo.out hbc))
                      go_wp2_with fail
                      refine (HOo.out _ _ _ HMt.out).mono ?_
                      rintro e wd ⟨Ao, co, rfl, hm, hc, hbd⟩
                      have hsd := hbd.size
                      have HMo := Lib.hid hm; have HCo2 := Lib.hid hc; clear hm hc HMt
                      replace HP := Lib.hid (HP.out.trans (hbd.mono HP.out.size))
                      (try replace BB := Lib.hid (BB.out.kept hbd))
                      go_wp2
                      refine ⟨xs_, ?_⟩
                      refine anyB_one (i := 4) (by kernel_rfl) rfl rfl ?_
                      intro we hbe K hK
                      have hse := hbe.size
                      (try simp at hse)
                      replace HP := Lib.hid (HP.out.trans (hbe.mono HP.out.size))
                      (try replace BB := Lib.hid (BB.out.kept hbe))
                      (try replace HMt := Lib.hid (ms_kept HMt.out hbe))
                      (try replace HMo := Lib.hid (ms_kept HMo.out hbe))
                      go_wp2_with fail
                      refine (HS0.out _ _ _ HMo.out HCo2.out).mono ?_
                      rintro e wf ⟨rfl, hbf⟩
                      have hsf := hbf.size
                      clear HMo HCo2
                      replace HP := Lib.hid (HP.out.trans (hbf.mono HP.out.size))
                      (try replace BB := Lib.hid (BB.out.kept hbf))
                      go_wp2
                      refine ⟨xs_, ?_⟩
                      (refine anyB_quiet_at (by kernel_rfl) calm_panic xs_ 2 [5, 6, 7] _ _ (by kernel_rfl) (by decide +kernel) ?_; simp only [pickB, List.filterMap_cons, List.filterMap_nil, List.getElem?_toArray, List.getElem?_cons_zero, List.getElem?_cons_succ]; (repeat (first | ((first | (with_reducible refine quietL_plain rfl (fun K hK => ?_)) | (with_reducible refine quietL_want (by with_unfolding_all rfl) (fun K hK => ?_))); (apply Exists.intro; refine ⟨fun wx hx => ?_, ?_⟩; (· (have hcx := ifs_ex hx); simp [go_sem, *, ↓IntWalk.iteOmega] <;> (first | rfl | exact ⟨rfl, rfl⟩ | fail)); (simp only [Act.put, List.setIfInBounds_toArray, List.set_cons_zero, List.set_cons_succ]; refine hK _ ?_; clear hK K))) | ((with_reducible refine quietL_skip (by with_unfolding_all rfl) ?_); simp only [Act.put, List.setIfInBounds_toArray, List.set_cons_zero, List.set_cons_succ]))); refine quietL_nil ?_)
                      refine anyB_one (i := 9) (by kernel_rfl) rfl rfl ?_
                      intro wi hbi K hK
                      have hsi := hbi.size
                      (try simp at hsi)
                      replace HP := Lib.hid (HP.out.trans (hbi.mono HP.out.size))
                      replace BB := Lib.hid (BB.out.kept hbi)
                      (try replace HG := Lib.hid (HG.out.kept hbi))
                      have cB := BB.out.cell
                      have fB := BB.out.frozen
                      have lB := BB.out.lt
                      go_wp2
                      refine ⟨xs_, ?_⟩
                      have BC := Lib.hid (put5_blk (v0 := .slice none 0 0) (v1 := .int .i64 0) (v2 := .int .i64 0) (v3 := .int .i64 0) (v4 := .int .i64 0) BB.out)
                      have HPc := Lib.hid (put5_low (b := wh.heap.size) (v0 := .slice none 0 0) (v1 := .int .i64 0) (v2 := .int .i64 0) (v3 := .int .i64 0) (v4 := .int .i64 0) HP.out (by omega))
                      (try have HGc := Lib.hid (put5_far (b := wh.heap.size) (v0 := .slice none 0 0) (v1 := .int .i64 0) (v2 := .int .i64 0) (v3 := .int .i64 0) (v4 := .int .i64 0) HG.out (blk_ne HG.out BB.out (by decide))))
                      clear cB fB lB HP BB
                      refine anyB_one (i := 10) (by kernel_rfl) rfl rfl ?_
                      intro wj hbj K hK
                      have hsj := hbj.size
                      (try simp at hsj)
                      go_wp2
                      refine ⟨xs_, ?_⟩
                      refine anyB_end (by kernel_rfl) ?_
                      intro wk hbk
                      have hsk := hbk.size
                      simp only [Calm]
                      have BE := Lib.hid ((BC.out.kept hbj).kept hbk)
                      have HPe := Lib.hid ((HPc.out.trans (hbj.mono HPc.out.size)).trans (hbk.mono (by have := HPc.out.size; omega)))
                      (try have HGe := Lib.hid ((HGc.out.kept hbj).kept hbk))
                      go_wp2_with fail
                      go_meet
                      case rel => exact ⟨wh.heap.size, rfl, rfl, HPe.out⟩
                  · skip
                    intro wh hbh K hK
                    have hsh := hbh.size
                    (try simp at hsh)
                    replace HP := Lib.hid (HP.out.trans (hbh.mono HP.out.size))
                    (try replace HMt := Lib.hid (ms_kept HMt.out hbh))
                    (try replace HMo := Lib.hid (ms_kept HMo.out hbh))
                    (try replace HG := Lib.hid (HG.out.kept hbh))
                    have hbx : Below wh.heap.size wh (wh.alloc (.cells #[.slice none 0 0, .int .i64 0, .int .i64 0, .int .i64 0, .int .i64 0] 35)) := (Below.refl _ _).alloc (Nat.le_refl _) _
                    replace HP := Lib.hid (HP.out.trans (hbx.mono HP.out.size))
                    (try replace HMt := Lib.hid (ms_kept HMt.out hbx))
                    (try replace HMo := Lib.hid (ms_kept HMo.out hbx))
                    (try replace HG := Lib.hid (HG.out.kept hbx))
                    have BB := Lib.hid (Blk.new wh 35 #[.slice none 0 0, .int .i64 0, .int .i64 0, .int .i64 0, .int .i64 0])
                    clear hbx
                    go_wp2
                    refine ⟨xs_, ?_⟩
                    refine anyB_one (i := 1) (by kernel_rfl) rfl rfl ?_
                    intro wa hba K hK
                    have hsa := hba.size
                    (try simp at hsa)
                    replace HP := Lib.hid (HP.out.trans (hba.mono HP.out.size))
                    (try replace BB := Lib.hid (BB.out.kept hba))
                    (try replace HMt := Lib.hid (ms_kept HMt.out hba))
                    (try replace HMo := Lib.hid (ms_kept HMo.out hba))
                    go_wp2_with fail
                    refine (HTo.out _ (ms_kept HI8.out.r HP.out)).mono ?_
                    rintro e wb ⟨At, ct, rfl, hm, hc, hbb⟩
                    have hsb := hbb.size
                    have HMt := Lib.hid hm; clear hm hc
                    replace HP := Lib.hid (HP.out.trans (hbb.mono HP.out.size))
                    (try replace BB := Lib.hid (BB.out.kept hbb))
                    go_wp2
                    refine ⟨xs_, ?_⟩
                    refine anyB_one (i := 2) (by kernel_rfl) rfl rfl ?_
                    intro wc hbc K hK
                    have hsc := hbc.size
                    (try simp at hsc)
                    replace HP := Lib.hid (HP.out.trans (hbc.mono HP.out.size))
                    (try replace BB := Lib.hid (BB.out.kept hbc))
                    (try replace HMt := Lib.hid (ms_kept HMt.out hbc))
                    (try replace HMo := Lib.hid (ms_kept HMo.out hbc))
                    go_wp2_with fail
                    refine (HOo.out _ _ _ HMt.out).mono ?_
                    rintro e wd ⟨Ao, co, rfl, hm, hc, hbd⟩
                    have hsd := hbd.size
                    have HMo := Lib.hid hm; have HCo2 := Lib.hid hc; clear hm hc HMt
                    replace HP := Lib.hid (HP.out.trans (hbd.mono HP.out.size))
                    (try replace BB := Lib.hid (BB.out.kept hbd))
                    go_wp2
                    refine ⟨xs_, ?_⟩
                    refine anyB_one (i := 4) (by kernel_rfl) rfl rfl ?_
                    intro we hbe K hK
                    have hse := hbe.size
                    (try simp at hse)
                    replace HP := Lib.hid (HP.out.trans (hbe.mono HP.out.size))
                    (try replace BB := Lib.hid (BB.out.kept hbe))
                    (try replace HMt := Lib.hid (ms_kept HMt.out hbe))
                    (try replace HMo := Lib.hid (ms_kept HMo.out hbe))
                    go_wp2_with fail
                    refine (HS0.out _ _ _ HMo.out HCo2.out).mono ?_
                    rintro e wf ⟨rfl, hbf⟩
                    have hsf := hbf.size
                    clear HMo HCo2
                    replace HP := Lib.hid (HP.out.trans (hbf.mono HP.out.size))
                    (try replace BB := Lib.hid (BB.out.kept hbf))
                    go_wp2
                    refine ⟨xs_, ?_⟩
                    (refine anyB_quiet_at (by kernel_rfl) calm_panic xs_ 2 [5, 6, 7] _ _ (by kernel_rfl) (by decide +kernel) ?_; simp only [pickB, List.filterMap_cons, List.filterMap_nil, List.getElem?_toArray, List.getElem?_cons_zero, List.getElem?_cons_succ]; (repeat (first | ((first | (with_reducible refine quietL_plain rfl (fun K hK => ?_)) | (with_reducible refine quietL_want (by with_unfolding_all rfl) (fun K hK => ?_))); (apply Exists.intro; refine ⟨fun wx hx => ?_, ?_⟩; (· (have hcx := ifs_ex hx); simp [go_sem, *, ↓IntWalk.iteOmega] <;> (first | rfl | exact ⟨rfl, rfl⟩ | fail)); (simp only [Act.put, List.setIfInBounds_toArray, List.set_cons_zero, List.set_cons_succ]; refine hK _ ?_; clear hK K))) | ((with_reducible refine quietL_skip (by with_unfolding_all rfl) ?_); simp only [Act.put, List.setIfInBounds_toArray, List.set_cons_zero, List.set_cons_succ]))); refine quietL_nil ?_)
                    refine anyB_one (i := 9) (by kernel_rfl) rfl rfl ?_
                    intro wi hbi K hK
                    have hsi := hbi.size
                    (try simp at hsi)
                    replace HP := Lib.hid (HP.out.trans (hbi.mono HP.out.size))
                    replace BB := Lib.hid (BB.out.kept hbi)
                    (try replace HG := Lib.hid (HG.out.kept hbi))
                    have cB := BB.out.cell
                    have fB := BB.out.frozen
                    have lB := BB.out.lt
                    go_wp2
                    refine ⟨xs_, ?_⟩
                    have BC := Lib.hid (put5_blk (v0 := .slice none 0 0) (v1 := .int .i64 0) (v2 := .int .i64 0) (v3 := .int .i64 0) (v4 := .int .i64 0) BB.out)
                    have HPc := Lib.hid (put5_low (b := wh.heap.size) (v0 := .slice none 0 0) (v1 := .int .i64 0) (v2 := .int .i64 0) (v3 := .int .i64 0) (v4 := .int .i64 0) HP.out (by omega))
                    (try have HGc := Lib.hid (put5_far (b := wh.heap.size) (v0 := .slice none 0 0) (v1 := .int .i64 0) (v2 := .int .i64 0) (v3 := .int .i64 0) (v4 := .int .i64 0) HG.out (blk_ne HG.out BB.out (by decide))))
                    clear cB fB lB HP BB
                    refine anyB_one (i := 10) (by kernel_rfl) rfl rfl ?_
                    intro wj hbj K hK
                    have hsj := hbj.size
                    (try simp at hsj)
                    go_wp2
                    refine ⟨xs_, ?_⟩
                    refine anyB_end (by kernel_rfl) ?_
                    intro wk hbk
                    have hsk := hbk.size
                    simp only [Calm]
                    have BE := Lib.hid ((BC.out.kept hbj).kept hbk)
                    have HPe := Lib.hid ((HPc.out.trans (hbj.mono HPc.out.size)).trans (hbk.mono (by have := HPc.out.size; omega)))
                    (try have HGe := Lib.hid ((HGc.out.kept hbj).kept hbk))
                    go_wp2_with fail
                    go_meet
                    case rel => exact ⟨wh.heap.size, rfl, rfl, HPe.out⟩
              as_aux_lemma =>
                rename World => w9
                obtain ⟨b9, rfl, rfl, hb⟩ := hcut
                have hs9 := hb.size
                have HA := Lib.hid (HI8.out.bA.kept hb)
                have HL := Lib.hid (HI8.out.low.trans (hb.mono HI8.out.low.size))
                clear hb HI8 HOx cN lN cO lO HP cA lA HS0
                have hne : (er != 0) = true := by simpa using h0
                have h4 := stepE_four (a := b) (o := o) (by rw [HEr.out]; exact h0)
                rw [HEr.out] at h4
                have HRu := Lib.hid (fun W A A2 c c2 (hm : MsAt W W.heap.size A n a.m) (hc : n ≤ c) (hr : Reads W W.heap.size 2 A2 n2 (ods l)) => (Run_any W.heap.size W.heap.size A A2 n c n2 c2 a l W hm (Nat.le_refl _) HEn.out.2.2.1 hc hr (Nat.le_refl _) (by omega)).mono (fun e w' h => run_err HEn.out.2.2.2.1 HRn.out h0 h))
                have HWk := Lib.hid (fun W A A2 c c2 (hm : MsAt W W.heap.size A n a.m) (hc : n ≤ c) (hr : Reads W W.heap.size 2 A2 n2 (ods l)) => Work_any W.heap.size W.heap.size A A2 n c n2 c2 a l W hm (Nat.le_refl _) HEn.out.2.2.1 hc hr (Nat.le_refl _) (by omega))
                have HLg := Lib.hid (fun W A A2 c c2 (hm : MsAt W W.heap.size A n a.m) (hc : n ≤ c) (hr : Reads W W.heap.size 2 A2 n2 (ods l)) => Log_any W.heap.size W.heap.size A A2 n c n2 c2 a l W hm (Nat.le_refl _) HEn.out.2.2.1 hc hr (Nat.le_refl _) (by omega))
                have hwe : wrkE a l = er := wrk_err HEn.out.2.2.2.1 HRn.out
                have hwv : wrkV a l = 0 := by unfold wrkV; rw [hwe, if_neg h0]
                rw [hwe, hwv] at HWk
                rw [hwe] at HLg
                clear hwe hwv HRn
                have cHA := HA.out.cell
                have lHA := HA.out.lt
                go_wp2_with fail
                refine (HOw.out _ HL.out).mono ?_
                rintro e w10 ⟨A10, c10, rfl, hm, hc, hb⟩
                have HM10 := Lib.hid hm; have HC10 := Lib.hid hc; clear hm hc
                clear cHA lHA
                have hs10 := hb.size
                have HL' := Lib.hid (HL.out.trans (hb.mono HL.out.size)); clear HL; have HL := HL'; clear HL'
                have HA' := Lib.hid (HA.out.kept hb); clear HA; have HA := HA'; clear HA'
                clear hb
                have cHA := HA.out.cell
                have lHA := HA.out.lt
                go_wp2_with fail
                refine (HOd.out _ HL.out).mono ?_
                rintro e w11 ⟨A11, c11, rfl, hr, hc, hb⟩
                have HR11 := Lib.hid hr; clear hr hc; have HM102 := Lib.hid (ms_kept HM10.out hb); clear HM10
                clear cHA lHA
                have hs11 := hb.size
                have HL' := Lib.hid (HL.out.trans (hb.mono HL.out.size)); clear HL; have HL := HL'; clear HL'
                have HA' := Lib.hid (HA.out.kept hb); clear HA; have HA := HA'; clear HA'
                clear hb
                have cHA := HA.out.cell
                have lHA := HA.out.lt
                go_wp2_with fail
                refine (HRu.out _ _ _ _ _ HM102.out HC10.out HR11.out).mono ?_
                rintro e w12 ⟨rfl, hb⟩
                clear HM102 HC10 HR11
                clear cHA lHA
                have hs12 := hb.size
                have HL' := Lib.hid (HL.out.trans (hb.mono HL.out.size)); clear HL; have HL := HL'; clear HL'
                have HA' := Lib.hid (HA.out.kept hb); clear HA; have HA := HA'; clear HA'
                clear hb
                have cHA := HA.out.cell
                have lHA := HA.out.lt
                go_wp2_with fail
                refine (HOw.out _ (HL.out.alloc HL.out.size _)).mono ?_
                rintro e w13 ⟨A13, c13, rfl, hm, hc, hb⟩
                have HM13 := Lib.hid hm; have HC13 := Lib.hid hc; clear hm hc
                clear cHA lHA
                have hb := ((Below.refl _ _).alloc (Nat.le_refl _) _).trans (hb.mono (by simp))
                have hs13 := hb.size
                have HL' := Lib.hid (HL.out.trans (hb.mono HL.out.size)); clear HL; have HL := HL'; clear HL'
                have HA' := Lib.hid (HA.out.kept hb); clear HA; have HA := HA'; clear HA'
                clear hb
                have cHA := HA.out.cell
                have lHA := HA.out.lt
                go_wp2_with fail
                refine (HOd.out _ HL.out).mono ?_
                rintro e w14 ⟨A14, c14, rfl, hr, hc, hb⟩
                have HR14 := Lib.hid hr; clear hr hc; have HM132 := Lib.hid (ms_kept HM13.out hb); clear HM13
                clear cHA lHA
                have hs14 := hb.size
                have HL' := Lib.hid (HL.out.trans (hb.mono HL.out.size)); clear HL; have HL := HL'; clear HL'
                have HA' := Lib.hid (HA.out.kept hb); clear HA; have HA := HA'; clear HA'
                clear hb
                have cHA := HA.out.cell
                have lHA := HA.out.lt
                go_wp2_with fail
                refine (HWk.out _ _ _ _ _ HM132.out HC13.out HR14.out).mono ?_
                rintro e w15 ⟨rfl, hb⟩
                clear HM132 HC13 HR14
                clear cHA lHA
                have hs15 := hb.size
                have HL' := Lib.hid (HL.out.trans (hb.mono HL.out.size)); clear HL; have HL := HL'; clear HL'
                have HA' := Lib.hid (HA.out.kept hb); clear HA; have HA := HA'; clear HA'
                clear hb
                have cHA := HA.out.cell
                have lHA := HA.out.lt
                go_wp2_with fail
                refine (HOw.out _ HL.out).mono ?_
                rintro e w16 ⟨A16, c16, rfl, hm, hc, hb⟩
                have HM16 := Lib.hid hm; have HC16 := Lib.hid hc; clear hm hc
                clear cHA lHA
                have hs16 := hb.size
                have HL' := Lib.hid (HL.out.trans (hb.mono HL.out.size)); clear HL; have HL := HL'; clear HL'
                have HA' := Lib.hid (HA.out.kept hb); clear HA; have HA := HA'; clear HA'
                clear hb
                have cHA := HA.out.cell
                have lHA := HA.out.lt
                go_wp2_with fail
                refine (HOd.out _ HL.out).mono ?_
                rintro e w17 ⟨A17, c17, rfl, hr, hc, hb⟩
                have HR17 := Lib.hid hr; clear hr hc; have HM162 := Lib.hid (ms_kept HM16.out hb); clear HM16
                clear cHA lHA
                have hs17 := hb.size
                have HL' := Lib.hid (HL.out.trans (hb.mono HL.out.size)); clear HL; have HL := HL'; clear HL'
                have HA' := Lib.hid (HA.out.kept hb); clear HA; have HA := HA'; clear HA'
                clear hb
                have cHA := HA.out.cell
                have lHA := HA.out.lt
                go_wp2_with fail
                refine (HLg.out _ _ _ _ _ HM162.out HC16.out HR17.out).mono ?_
                rintro e w18 ⟨v18, vs18, rfl, _, hv, _, hb⟩
                clear HM162 HC16 HR17
                clear cHA lHA
                have hs18 := hb.size
                have HL' := Lib.hid (HL.out.trans (hb.mono HL.out.size)); clear HL; have HL := HL'; clear HL'
                have HA' := Lib.hid (HA.out.kept hb); clear HA; have HA := HA'; clear HA'
                clear hb
                have cHA := HA.out.cell
                have lHA := HA.out.lt
                obtain rfl := hv h0
                clear hv
                rcases h4 with rfl | rfl | rfl | rfl
                all_goals
                  go_wp2_with fail
                  go_ret
                  exact ⟨rfl, HL.out⟩
            case pos =>
              subst h0
              have HS0 := Lib.hid (fun W A c hm hc => (HSt.out W A c hm hc).mono (fun e w' (h : _ ∧ _) => show ∃ g, e = .returned (.tuple #[.agg #[.slice (some ⟨g, 0, none⟩) n n, .int .i64 a.lo, .int .i64 a.hi, .int .i64 a.cur, .int .i64 a.lim], .int .i64 0]) ∧ Blk w' g 73 (mds (stepA b o).m).toArray ∧ Below W.heap.size W w' from by
                obtain ⟨hb, ⟨_, g, h1, h2, _⟩ | ⟨h1, _⟩⟩ := h
                · exact ⟨g, h1, h2, hb⟩
                · exact absurd rfl h1))
              have hst := HEr.out
              have hgo2 : goTo a (l.take (k + 1)) = some (stepA b o) := by rw [HTk.out, goTo_snoc HGo.out, if_pos hst]
              have HG2 := Lib.hid hgo2
              obtain ⟨hE2, hS2⟩ := goTo_ok HEn.out.1 (fun x hx => HEn.out.2.1 x (List.mem_of_mem_take hx)) hgo2
              have hF2 := fit_step HEn.out.2.2.1 hS2
              have hm2 := same_mk hS2
              have hl2' := hS2.len
              rw [HEn.out.2.2.2.2] at hl2'
              have hbln2 : b.m.length = n := by rw [HEb.out.2.2.1]; exact HEn.out.2.2.2.2
              have hof := order_zero HEb.out.2.2.2
              have hon := fl_on (fit_of HEb.out.1) hof.1.1 (step_zero hst)
              have hsw := fl_sw (fit_of HEb.out.1) hof.1.1 (step_zero hst)
              have hlm : b.lim = a.lim := by rw [HBm.out]
              rw [hlm] at hsw
              clear hlm
              have HAt := Lib.hid (fun k h h' => stepA_at (b := b) (o := o) (k := k) h h')
              have HTn := Lib.hid (fun W A (hm : MsAt W W.heap.size A n (stepA b o).m) => told_r W.heap.size A n n (stepA b o) W hm (Nat.le_refl _) (by omega))
              clear HSt HNo hst hgo2
              have HCn := Lib.hid (fun W A c (hm : MsAt W W.heap.size A n (stepA b o).m) => rCheckArm_any W.heap.size A n c (stepA b o) W hm (Nat.le_refl _) hF2)
              rw [hE2] at HCn
              have HMk : Hid (stepA b o = ⟨(stepA b o).m, a.lo, a.hi, a.cur, a.lim⟩) := Lib.hid hm2
              obtain ⟨M, hM⟩ : ∃ M, (stepA b o).m = M := ⟨_, rfl⟩
              rw [hM] at HMk
              rw [HMk.out] at HTn HCn HAt
              dsimp only at HTn HCn HAt
              rw [hM] at hl2' hon hsw HS0
              clear hm2 hE2 hS2 hF2
              go_cut [9, 10] (fun s9 s10 wx => ∃ b9 g : Nat, s9 = .pointer (some ⟨b9, 0, none⟩) ∧ s10 = .int .i64 0 ∧ Blk wx b9 35 #[.slice (some ⟨g, 0, none⟩) n n, .int .i64 a.lo, .int .i64 a.hi, .int .i64 a.cur, .int .i64 a.lim] ∧ Blk wx g 73 (mds M).toArray ∧ Below w8.heap.size w8 wx)
              case first =>
                as_aux_lemma =>
                  (refine wp_region_calm [] [0, 3] 9 (by kernel_rfl) rfl (by kernel_rfl) (by kernel_rfl) (by kernel_rfl) ?_; simp only [pickB, List.filterMap_cons, List.filterMap_nil, List.getElem?_toArray, List.getElem?_cons_zero, List.getElem?_cons_succ]; (repeat (first | ((first | (with_reducible refine quietL_plain rfl (fun K hK => ?_)) | (with_reducible refine quietL_want (by with_unfolding_all rfl) (fun K hK => ?_))); (apply Exists.intro; refine ⟨fun wx hx => ?_, ?_⟩; (· (have hcx := ifs_ex hx); simp [go_sem, *, ↓IntWalk.iteOmega] <;> (first | rfl | exact ⟨rfl, rfl⟩ | skip)); (simp only [Act.put, List.setIfInBounds_toArray, List.set_cons_zero, List.set_cons_succ]; refine hK _ ?_; clear hK K))) | ((with_reducible refine quietL_skip (by with_unfolding_all rfl) ?_); simp only [Act.put, List.setIfInBounds_toArray, List.set_cons_zero, List.set_cons_succ]))); refine quietL_nil ?_)
                  refine anyB_two (i := 1) (j := 8) (by kernel_rfl) rfl rfl rfl rfl ?_ ?_
                  · skip
                    intro wa hba K hK
                    have hsa := hba.size
                    (try simp at hsa)
                    replace HP := Lib.hid (HP.out.trans (hba.mono HP.out.size))
                    (try replace BB := Lib.hid (BB.out.kept hba))
                    (try replace HMt := Lib.hid (ms_kept HMt.out hba))
                    (try replace HMo := Lib.hid (ms_kept HMo.out hba))
                    go_wp2_with fail
                    refine (HTo.out _ (ms_kept HI8.out.r HP.out)).mono ?_
                    rintro e wb ⟨At, ct, rfl, hm, hc, hbb⟩
                    have hsb := hbb.size
                    have HMt := Lib.hid hm; clear hm hc
                    replace HP := Lib.hid (HP.out.trans (hbb.mono HP.out.size))
                    (try replace BB := Lib.hid (BB.out.kept hbb))
                    go_wp2
                    refine ⟨xs_, ?_⟩
                    refine anyB_two (i := 2) (j := 8) (by kernel_rfl) rfl rfl rfl rfl ?_ ?_
                    · skip
                      intro wc hbc K hK
                      have hsc := hbc.size
                      (try simp at hsc)
                      replace HP := Lib.hid (HP.out.trans (hbc.mono HP.out.size))
                      (try replace BB := Lib.hid (BB.out.kept hbc))
                      (try replace HMt := Lib.hid (ms_kept HMt.out hbc))
                      (try replace HMo := Lib.hid (ms_kept HMo.out hbc))
                      go_wp2_with fail
                      refine (HOo.out _ _ _ HMt.out).mono ?_
                      rintro e wd ⟨Ao, co, rfl, hm, hc, hbd⟩
                      have hsd := hbd.size
                      have HMo := Lib.hid hm; have HCo2 := Lib.hid hc; clear hm hc HMt
                      replace HP := Lib.hid (HP.out.trans (hbd.mono HP.out.size))
                      (try replace BB := Lib.hid (BB.out.kept hbd))
                      go_wp2
                      refine ⟨xs_, ?_⟩
                      refine anyB_two (i := 4) (j := 8) (by kernel_rfl) rfl rfl rfl rfl ?_ ?_
                      · skip
                        intro we hbe K hK
                        have hse := hbe.size
                        (try simp at hse)
                        replace HP := Lib.hid (HP.out.trans (hbe.mono HP.out.size))
                        (try replace BB := Lib.hid (BB.out.kept hbe))
                        (try replace HMt := Lib.hid (ms_kept HMt.out hbe))
                        (try replace HMo := Lib.hid (ms_kept HMo.out hbe))
                        go_wp2_with fail
                        refine (HS0.out _ _ _ HMo.out HCo2.out).mono ?_
                        rintro e wf ⟨g, rfl, hg, hbf⟩
                        have hsf := hbf.size
                        clear HMo HCo2; have HG := Lib.hid hg; clear hg
                        replace HP := Lib.hid (HP.out.trans (hbf.mono HP.out.size))
                        (try replace BB := Lib.hid (BB.out.kept hbf))
                        go_wp2
                        refine ⟨xs_, ?_⟩
                        (refine anyB_quiet_at (by kernel_rfl) calm_panic xs_ 3 [5, 6, 7] _ _ (by kernel_rfl) (by decide +kernel) ?_; simp only [pickB, List.filterMap_cons, List.filterMap_nil, List.getElem?_toArray, List.getElem?_cons_zero, List.getElem?_cons_succ]; (repeat (first | ((first | (with_reducible refine quietL_plain rfl (fun K hK => ?_)) | (with_reducible refine quietL_want (by with_unfolding_all rfl) (fun K hK => ?_))); (apply Exists.intro; refine ⟨fun wx hx => ?_, ?_⟩; (· (have hcx := ifs_ex hx); simp [go_sem, *, ↓IntWalk.iteOmega] <;> (first | rfl | exact ⟨rfl, rfl⟩ | fail)); (simp only [Act.put, List.setIfInBounds_toArray, List.set_cons_zero, List.set_cons_succ]; refine hK _ ?_; clear hK K))) | ((with_reducible refine quietL_skip (by with_unfolding_all rfl) ?_); simp only [Act.put, List.setIfInBounds_toArray, List.set_cons_zero, List.set_cons_succ]))); refine quietL_nil ?_)
                        refine anyB_one (i := 8) (by kernel_rfl) rfl rfl ?_
                        intro wh hbh K hK
                        have hsh := hbh.size
                        (try simp at hsh)
                        replace HP := Lib.hid (HP.out.trans (hbh.mono HP.out.size))
                        (try replace HMt := Lib.hid (ms_kept HMt.out hbh))
                        (try replace HMo := Lib.hid (ms_kept HMo.out hbh))
                        (try replace HG := Lib.hid (HG.out.kept hbh))
                        have hbx : Below wh.heap.size wh (wh.alloc (.cells #[.slice none 0 0, .int .i64 0, .int .i64 0, .int .i64 0, .int .i64 0] 35)) := (Below.refl _ _).alloc (Nat.le_refl _) _
                        replace HP := Lib.hid (HP.out.trans (hbx.mono HP.out.size))
                        (try replace HMt := Lib.hid (ms_kept HMt.out hbx))
                        (try replace HMo := Lib.hid (ms_kept HMo.out hbx))
                        (try replace HG := Lib.hid (HG.out.kept hbx))
                        have BB := Lib.hid (Blk.new wh 35 #[.slice none 0 0, .int .i64 0, .int .i64 0, .int .i64 0, .int .i64 0])
                        clear hbx
                        go_wp2
                        refine ⟨xs_, ?_⟩
                        refine anyB_one (i := 9) (by kernel_rfl) rfl rfl ?_
                        intro wi hbi K hK
                        have hsi := hbi.size
                        (try simp at hsi)
                        replace HP := Lib.hid (HP.out.trans (hbi.mono HP.out.size))
                        replace BB := Lib.hid (BB.out.kept hbi)
                        (try replace HG := Lib.hid (HG.out.kept hbi))
                        have cB := BB.out.cell
                        have fB := BB.out.frozen
                        have lB := BB.out.lt
                        go_wp2
                        refine ⟨xs_, ?_⟩
                        have BC := Lib.hid (put5_blk (v0 := .slice (some ⟨g, 0, none⟩) n n) (v1 := .int .i64 a.lo) (v2 := .int .i64 a.hi) (v3 := .int .i64 a.cur) (v4 := .int .i64 a.lim) BB.out)
                        have HPc := Lib.hid (put5_low (b := wh.heap.size) (v0 := .slice (some ⟨g, 0, none⟩) n n) (v1 := .int .i64 a.lo) (v2 := .int .i64 a.hi) (v3 := .int .i64 a.cur) (v4 := .int .i64 a.lim) HP.out (by omega))
                        (try have HGc := Lib.hid (put5_far (b := wh.heap.size) (v0 := .slice (some ⟨g, 0, none⟩) n n) (v1 := .int .i64 a.lo) (v2 := .int .i64 a.hi) (v3 := .int .i64 a.cur) (v4 := .int .i64 a.lim) HG.out (blk_ne HG.out BB.out (by decide))))
                        clear cB fB lB HP BB
                        refine anyB_one (i := 10) (by kernel_rfl) rfl rfl ?_
                        intro wj hbj K hK
                        have hsj := hbj.size
                        (try simp at hsj)
                        go_wp2
                        refine ⟨xs_, ?_⟩
                        refine anyB_end (by kernel_rfl) ?_
                        intro wk hbk
                        have hsk := hbk.size
                        simp only [Calm]
                        have BE := Lib.hid ((BC.out.kept hbj).kept hbk)
                        have HPe := Lib.hid ((HPc.out.trans (hbj.mono HPc.out.size)).trans (hbk.mono (by have := HPc.out.size; omega)))
                        (try have HGe := Lib.hid ((HGc.out.kept hbj).kept hbk))
                        go_wp2_with fail
                        go_meet
                        case rel => exact ⟨wh.heap.size, g, rfl, rfl, BE.out, HGe.out, HPe.out⟩
                      · skip
                        intro wh hbh K hK
                        have hsh := hbh.size
                        (try simp at hsh)
                        replace HP := Lib.hid (HP.out.trans (hbh.mono HP.out.size))
                        (try replace HMt := Lib.hid (ms_kept HMt.out hbh))
                        (try replace HMo := Lib.hid (ms_kept HMo.out hbh))
                        (try replace HG := Lib.hid (HG.out.kept hbh))
                        have hbx : Below wh.heap.size wh (wh.alloc (.cells #[.slice none 0 0, .int .i64 0, .int .i64 0, .int .i64 0, .int .i64 0] 35)) := (Below.refl _ _).alloc (Nat.le_refl _) _
                        replace HP := Lib.hid (HP.out.trans (hbx.mono HP.out.size))
                        (try replace HMt := Lib.hid (ms_kept HMt.out hbx))
                        (try replace HMo := Lib.hid (ms_kept HMo.out hbx))
                        (try replace HG := Lib.hid (HG.out.kept hbx))
                        have BB := Lib.hid (Blk.new wh 35 #[.slice none 0 0, .int .i64 0, .int .i64 0, .int .i64 0, .int .i64 0])
                        clear hbx
                        go_wp2
                        refine ⟨xs_, ?_⟩
                        refine anyB_one (i := 4) (by kernel_rfl) rfl rfl ?_
                        intro we hbe K hK
                        have hse := hbe.size
                        (try simp at hse)
                        replace HP := Lib.hid (HP.out.trans (hbe.mono HP.out.size))
                        (try replace BB := Lib.hid (BB.out.kept hbe))
                        (try replace HMt := Lib.hid (ms_kept HMt.out hbe))
                        (try replace HMo := Lib.hid (ms_kept HMo.out hbe))
                        go_wp2_with fail
                        refine (HS0.out _ _ _ HMo.out HCo2.out).mono ?_
                        rintro e wf ⟨g, rfl, hg, hbf⟩
                        have hsf := hbf.size
                        clear HMo HCo2; have HG := Lib.hid hg; clear hg
                        replace HP := Lib.hid (HP.out.trans (hbf.mono HP.out.size))
                        (try replace BB := Lib.hid (BB.out.kept hbf))
                        go_wp2
                        refine ⟨xs_, ?_⟩
                        (refine anyB_quiet_at (by kernel_rfl) calm_panic xs_ 2 [5, 6, 7] _ _ (by kernel_rfl) (by decide +kernel) ?_; simp only [pickB, List.filterMap_cons, List.filterMap_nil, List.getElem?_toArray, List.getElem?_cons_zero, List.getElem?_cons_succ]; (repeat (first | ((first | (with_reducible refine quietL_plain rfl (fun K hK => ?_)) | (with_reducible refine quietL_want (by with_unfolding_all rfl) (fun K hK => ?_))); (apply Exists.intro; refine ⟨fun wx hx => ?_, ?_⟩; (· (have hcx := ifs_ex hx); simp [go_sem, *, ↓IntWalk.iteOmega] <;> (first | rfl | exact ⟨rfl, rfl⟩ | fail)); (simp only [Act.put, List.setIfInBounds_toArray, List.set_cons_zero, List.set_cons_succ]; refine hK _ ?_; clear hK K))) | ((with_reducible refine quietL_skip (by with_unfolding_all rfl) ?_); simp only [Act.put, List.setIfInBounds_toArray, List.set_cons_zero, List.set_cons_succ]))); refine quietL_nil ?_)
                        refine anyB_one (i := 9) (by kernel_rfl) rfl rfl ?_
                        intro wi hbi K hK
                        have hsi := hbi.size
                        (try simp at hsi)
                        replace HP := Lib.hid (HP.out.trans (hbi.mono HP.out.size))
                        replace BB := Lib.hid (BB.out.kept hbi)
                        (try replace HG := Lib.hid (HG.out.kept hbi))
                        have cB := BB.out.cell
                        have fB := BB.out.frozen
                        have lB := BB.out.lt
                        go_wp2
                        refine ⟨xs_, ?_⟩
                        have BC := Lib.hid (put5_blk (v0 := .slice (some ⟨g, 0, none⟩) n n) (v1 := .int .i64 a.lo) (v2 := .int .i64 a.hi) (v3 := .int .i64 a.cur) (v4 := .int .i64 a.lim) BB.out)
                        have HPc := Lib.hid (put5_low (b := wh.heap.size) (v0 := .slice (some ⟨g, 0, none⟩) n n) (v1 := .int .i64 a.lo) (v2 := .int .i64 a.hi) (v3 := .int .i64 a.cur) (v4 := .int .i64 a.lim) HP.out (by omega))
                        (try have HGc := Lib.hid (put5_far (b := wh.heap.size) (v0 := .slice (some ⟨g, 0, none⟩) n n) (v1 := .int .i64 a.lo) (v2 := .int .i64 a.hi) (v3 := .int .i64 a.cur) (v4 := .int .i64 a.lim) HG.out (blk_ne HG.out BB.out (by decide))))
                        clear cB fB lB HP BB
                        refine anyB_one (i := 10) (by kernel_rfl) rfl rfl ?_
                        intro wj hbj K hK
                        have hsj := hbj.size
                        (try simp at hsj)
                        go_wp2
                        refine ⟨xs_, ?_⟩
                        refine anyB_end (by kernel_rfl) ?_
                        intro wk hbk
                        have hsk := hbk.size
                        simp only [Calm]
                        have BE := Lib.hid ((BC.out.kept hbj).kept hbk)
                        have HPe := Lib.hid ((HPc.out.trans (hbj.mono HPc.out.size)).trans (hbk.mono (by have := HPc.out.size; omega)))
                        (try have HGe := Lib.hid ((HGc.out.kept hbj).kept hbk))
                        go_wp2_with fail
                        go_meet
                        case rel => exact ⟨wh.heap.size, g, rfl, rfl, BE.out, HGe.out, HPe.out⟩
                    · skip
                      intro wh hbh K hK
                      have hsh := hbh.size
                      (try simp at hsh)
                      replace HP := Lib.hid (HP.out.trans (hbh.mono HP.out.size))
                      (try replace HMt := Lib.hid (ms_kept HMt.out hbh))
                      (try replace HMo := Lib.hid (ms_kept HMo.out hbh))
                      (try replace HG := Lib.hid (HG.out.kept hbh))
                      have hbx : Below wh.heap.size wh (wh.alloc (.cells #[.slice none 0 0, .int .i64 0, .int .i64 0, .int .i64 0, .int .i64 0] 35)) := (Below.refl _ _).alloc (Nat.le_refl _) _
                      replace HP := Lib.hid (HP.out.trans (hbx.mono HP.out.size))
                      (try replace HMt := Lib.hid (ms_kept HMt.out hbx))
                      (try replace HMo := Lib.hid (ms_kept HMo.out hbx))
                      (try replace HG := Lib.hid (HG.out.kept hbx))
                      have BB := Lib.hid (Blk.new wh 35 #[.slice none 0 0, .int .i64 0, .int .i64 0, .int .i64 0, .int .i64 0])
                      clear hbx
                      go_wp2
                      refine ⟨xs_, ?_⟩
                      refine anyB_one (i := 2) (by kernel_rfl) rfl rfl ?_
                      intro wc hbc K hK
                      have hsc := hbc.size
                      (try simp at hsc)
                      replace HP := Lib.hid (HP.out.trans (hbc.mono HP.out.size))
                      (try replace BB := Lib.hid (BB.out.kept hbc))
                      (try replace HMt := Lib.hid (ms_kept HMt.out hbc))
                      (try replace HMo := Lib.hid (ms_kept HMo.out hbc))
                      go_wp2_with fail
                      refine (HOo.out _ _ _ HMt.out).mono ?_
                      rintro e wd ⟨Ao, co, rfl, hm, hc, hbd⟩
                      have hsd := hbd.size
                      have HMo := Lib.hid hm; have HCo2 := Lib.hid hc; clear hm hc HMt
                      replace HP := Lib.hid (HP.out.trans (hbd.mono HP.out.size))
                      (try replace BB := Lib.hid (BB.out.kept hbd))
                      go_wp2
                      refine ⟨xs_, ?_⟩
                      refine anyB_one (i := 4) (by kernel_rfl) rfl rfl ?_
                      intro we hbe K hK
                      have hse := hbe.size
                      (try simp at hse)
                      replace HP := Lib.hid (HP.out.trans (hbe.mono HP.out.size))
                      (try replace BB := Lib.hid (BB.out.kept hbe))
                      (try replace HMt := Lib.hid (ms_kept HMt.out hbe))
                      (try replace HMo := Lib.hid (ms_kept HMo.out hbe))
                      go_wp2_with fail
                      refine (HS0.out _ _ _ HMo.out HCo2.out).mono ?_
                      rintro e wf ⟨g, rfl, hg, hbf⟩
                      have hsf := hbf.size
                      clear HMo HCo2; have HG := Lib.hid hg; clear hg
                      replace HP := Lib.hid (HP.out.trans (hbf.mono HP.out.size))
                      (try replace BB := Lib.hid (BB.out.kept hbf))
                      go_wp2
                      refine ⟨xs_, ?_⟩
                      (refine anyB_quiet_at (by kernel_rfl) calm_panic xs_ 2 [5, 6, 7] _ _ (by kernel_rfl) (by decide +kernel) ?_; simp only [pickB, List.filterMap_cons, List.filterMap_nil, List.getElem?_toArray, List.getElem?_cons_zero, List.getElem?_cons_succ]; (repeat (first | ((first | (with_reducible refine quietL_plain rfl (fun K hK => ?_)) | (with_reducible refine quietL_want (by with_unfolding_all rfl) (fun K hK => ?_))); (apply Exists.intro; refine ⟨fun wx hx => ?_, ?_⟩; (· (have hcx := ifs_ex hx); simp [go_sem, *, ↓IntWalk.iteOmega] <;> (first | rfl | exact ⟨rfl, rfl⟩ | fail)); (simp only [Act.put, List.setIfInBounds_toArray, List.set_cons_zero, List.set_cons_succ]; refine hK _ ?_; clear hK K))) | ((with_reducible refine quietL_skip (by with_unfolding_all rfl) ?_); simp only [Act.put, List.setIfInBounds_toArray, List.set_cons_zero, List.set_cons_succ]))); refine quietL_nil ?_)
                      refine anyB_one (i := 9) (by kernel_rfl) rfl rfl ?_
                      intro wi hbi K hK
                      have hsi := hbi.size
                      (try simp at hsi)
                      replace HP := Lib.hid (HP.out.trans (hbi.mono HP.out.size))
                      replace BB := Lib.hid (BB.out.kept hbi)
                      (try replace HG := Lib.hid (HG.out.kept hbi))
                      have cB := BB.out.cell
                      have fB := BB.out.frozen
                      have lB := BB.out.lt
                      go_wp2
                      refine ⟨xs_, ?_⟩
                      have BC := Lib.hid (put5_blk (v0 := .slice (some ⟨g, 0, none⟩) n n) (v1 := .int .i64 a.lo) (v2 := .int .i64 a.hi) (v3 := .int .i64 a.cur) (v4 := .int .i64 a.lim) BB.out)
                      have HPc := Lib.hid (put5_low (b := wh.heap.size) (v0 := .slice (some ⟨g, 0, none⟩) n n) (v1 := .int .i64 a.lo) (v2 := .int .i64 a.hi) (v3 := .int .i64 a.cur) (v4 := .int .i64 a.lim) HP.out (by omega))
                      (try have HGc := Lib.hid (put5_far (b := wh.heap.size) (v0 := .slice (some ⟨g, 0, none⟩) n n) (v1 := .int .i64 a.lo) (v2 := .int .i64 a.hi) (v3 := .int .i64 a.cur) (v4 := .int .i64 a.lim) HG.out (blk_ne HG.out BB.out (by decide))))
                      clear cB fB lB HP BB
                      refine anyB_one (i := 10) (by kernel_rfl) rfl rfl ?_
                      intro wj hbj K hK
                      have hsj := hbj.size
                      (try simp at hsj)
                      go_wp2
                      refine ⟨xs_, ?_⟩
                      refine anyB_end (by kernel_rfl) ?_
                      intro wk hbk
                      have hsk := hbk.size
                      simp only [Calm]
                      have BE := Lib.hid ((BC.out.kept hbj).kept hbk)
                      have HPe := Lib.hid ((HPc.out.trans (hbj.mono HPc.out.size)).trans (hbk.mono (by have := HPc.out.size; omega)))
                      (try have HGe := Lib.hid ((HGc.out.kept hbj).kept hbk))
                      go_wp2_with fail
                      go_meet
                      case rel => exact ⟨wh.heap.size, g, rfl, rfl, BE.out, HGe.out, HPe.out⟩
                  · skip
                    intro wh hbh K hK
                    have hsh := hbh.size
                    (try simp at hsh)
                    replace HP := Lib.hid (HP.out.trans (hbh.mono HP.out.size))
                    (try replace HMt := Lib.hid (ms_kept HMt.out hbh))
                    (try replace HMo := Lib.hid (ms_kept HMo.out hbh))
                    (try replace HG := Lib.hid (HG.out.kept hbh))
                    have hbx : Below wh.heap.size wh (wh.alloc (.cells #[.slice none 0 0, .int .i64 0, .int .i64 0, .int .i64 0, .int .i64 0] 35)) := (Below.refl _ _).alloc (Nat.le_refl _) _
                    replace HP := Lib.hid (HP.out.trans (hbx.mono HP.out.size))
                    (try replace HMt := Lib.hid (ms_kept HMt.out hbx))
                    (try replace HMo := Lib.hid (ms_kept HMo.out hbx))
                    (try replace HG := Lib.hid (HG.out.kept hbx))
                    have BB := Lib.hid (Blk.new wh 35 #[.slice none 0 0, .int .i64 0, .int .i64 0, .int .i64 0, .int .i64 0])
                    clear hbx
                    go_wp2
                    refine ⟨xs_, ?_⟩
                    refine anyB_one (i := 1) (by kernel_rfl) rfl rfl ?_
                    intro wa hba K hK
                    have hsa := hba.size
                    (try simp at hsa)
                    replace HP := Lib.hid (HP.out.trans (hba.mono HP.out.size))
                    (try replace BB := Lib.hid (BB.out.kept hba))
                    (try replace HMt := Lib.hid (ms_kept HMt.out hba))
                    (try replace HMo := Lib.hid (ms_kept HMo.out hba))
                    go_wp2_with fail
                    refine (HTo.out _ (ms_kept HI8.out.r HP.out)).mono ?_
                    rintro e wb ⟨At, ct, rfl, hm, hc, hbb⟩
                    have hsb := hbb.size
                    have HMt := Lib.hid hm; clear hm hc
                    replace HP := Lib.hid (HP.out.trans (hbb.mono HP.out.size))
                    (try replace BB := Lib.hid (BB.out.kept hbb))
                    go_wp2
                    refine ⟨xs_, ?_⟩
                    refine anyB_one (i := 2) (by kernel_rfl) rfl rfl ?_
                    intro wc hbc K hK
                    have hsc := hbc.size
                    (try simp at hsc)
                    replace HP := Lib.hid (HP.out.trans (hbc.mono HP.out.size))
                    (try replace BB := Lib.hid (BB.out.kept hbc))
                    (try replace HMt := Lib.hid (ms_kept HMt.out hbc))
                    (try replace HMo := Lib.hid (ms_kept HMo.out hbc))
                    go_wp2_with fail
                    refine (HOo.out _ _ _ HMt.out).mono ?_
                    rintro e wd ⟨Ao, co, rfl, hm, hc, hbd⟩
                    have hsd := hbd.size
                    have HMo := Lib.hid hm; have HCo2 := Lib.hid hc; clear hm hc HMt
                    replace HP := Lib.hid (HP.out.trans (hbd.mono HP.out.size))
                    (try replace BB := Lib.hid (BB.out.kept hbd))
                    go_wp2
                    refine ⟨xs_, ?_⟩
                    refine anyB_one (i := 4) (by kernel_rfl) rfl rfl ?_
                    intro we hbe K hK
                    have hse := hbe.size
                    (try simp at hse)
                    replace HP := Lib.hid (HP.out.trans (hbe.mono HP.out.size))
                    (try replace BB := Lib.hid (BB.out.kept hbe))
                    (try replace HMt := Lib.hid (ms_kept HMt.out hbe))
                    (try replace HMo := Lib.hid (ms_kept HMo.out hbe))
                    go_wp2_with fail
                    refine (HS0.out _ _ _ HMo.out HCo2.out).mono ?_
                    rintro e wf ⟨g, rfl, hg, hbf⟩
                    have hsf := hbf.size
                    clear HMo HCo2; have HG := Lib.hid hg; clear hg
                    replace HP := Lib.hid (HP.out.trans (hbf.mono HP.out.size))
                    (try replace BB := Lib.hid (BB.out.kept hbf))
                    go_wp2
                    refine ⟨xs_, ?_⟩
                    (refine anyB_quiet_at (by kernel_rfl) calm_panic xs_ 2 [5, 6, 7] _ _ (by kernel_rfl) (by decide +kernel) ?_; simp only [pickB, List.filterMap_cons, List.filterMap_nil, List.getElem?_toArray, List.getElem?_cons_zero, List.getElem?_cons_succ]; (repeat (first | ((first | (with_reducible refine quietL_plain rfl (fun K hK => ?_)) | (with_reducible refine quietL_want (by with_unfolding_all rfl) (fun K hK => ?_))); (apply Exists.intro; refine ⟨fun wx hx => ?_, ?_⟩; (· (have hcx := ifs_ex hx); simp [go_sem, *, ↓IntWalk.iteOmega] <;> (first | rfl | exact ⟨rfl, rfl⟩ | fail)); (simp only [Act.put, List.setIfInBounds_toArray, List.set_cons_zero, List.set_cons_succ]; refine hK _ ?_; clear hK K))) | ((with_reducible refine quietL_skip (by with_unfolding_all rfl) ?_); simp only [Act.put, List.setIfInBounds_toArray, List.set_cons_zero, List.set_cons_succ]))); refine quietL_nil ?_)
                    refine anyB_one (i := 9) (by kernel_rfl) rfl rfl ?_
                    intro wi hbi K hK
                    have hsi := hbi.size
                    (try simp at hsi)
                    replace HP := Lib.hid (HP.out.trans (hbi.mono HP.out.size))
                    replace BB := Lib.hid (BB.out.kept hbi)
                    (try replace HG := Lib.hid (HG.out.kept hbi))
                    have cB := BB.out.cell
                    have fB := BB.out.frozen
                    have lB := BB.out.lt
                    go_wp2
                    refine ⟨xs_, ?_⟩
                    have BC := Lib.hid (put5_blk (v0 := .slice (some ⟨g, 0, none⟩) n n) (v1 := .int .i64 a.lo) (v2 := .int .i64 a.hi) (v3 := .int .i64 a.cur) (v4 := .int .i64 a.lim) BB.out)
                    have HPc := Lib.hid (put5_low (b := wh.heap.size) (v0 := .slice (some ⟨g, 0, none⟩) n n) (v1 := .int .i64 a.lo) (v2 := .int .i64 a.hi) (v3 := .int .i64 a.cur) (v4 := .int .i64 a.lim) HP.out (by omega))
                    (try have HGc := Lib.hid (put5_far (b := wh.heap.size) (v0 := .slice (some ⟨g, 0, none⟩) n n) (v1 := .int .i64 a.lo) (v2 := .int .i64 a.hi) (v3 := .int .i64 a.cur) (v4 := .int .i64 a.lim) HG.out (blk_ne HG.out BB.out (by decide))))
                    clear cB fB lB HP BB
                    refine anyB_one (i := 10) (by kernel_rfl) rfl rfl ?_
                    intro wj hbj K hK
                    have hsj := hbj.size
                    (try simp at hsj)
                    go_wp2
                    refine ⟨xs_, ?_⟩
                    refine anyB_end (by kernel_rfl) ?_
                    intro wk hbk
                    have hsk := hbk.size
                    simp only [Calm]
                    have BE := Lib.hid ((BC.out.kept hbj).kept hbk)
                    have HPe := Lib.hid ((HPc.out.trans (hbj.mono HPc.out.size)).trans (hbk.mono (by have := HPc.out.size; omega)))
                    (try have HGe := Lib.hid ((HGc.out.kept hbj).kept hbk))
                    go_wp2_with fail
                    go_meet
                    case rel => exact ⟨wh.heap.size, g, rfl, rfl, BE.out, HGe.out, HPe.out⟩
              as_aux_lemma =>
                rename World => w9
                obtain ⟨b9, g, rfl, rfl, hbx, hrow, hb⟩ := hcut
                have hs9 := hb.size
                have HI := Lib.hid (show FlI w nb ob b9 g A n c a A' c' b.m M o w9 from ⟨HI8.out.kept hb, hbx, hrow, HOx.out.kept hb⟩)
                clear hb hbx hrow HI8 HOx cN lN cO lO HP cA lA HS0 HTo HOo
                have cA := HI.out.fw.bA.cell
                have lA := HI.out.fw.bA.lt
                have c9 := HI.out.nx.cell
                have l9 := HI.out.nx.lt
                go_wp2_with fail
                refine (HTn.out _ _ (HI.out.ms hl2')).mono ?_
                rintro e w10 ⟨A10, c10, rfl, hm, hc, hb⟩
                have HI' := Lib.hid (HI.out.kept hb); clear HI; have HI := HI'; clear HI'
                have HM10 := Lib.hid hm
                clear hm hc hb cA lA c9 l9
                go_wp2_with fail
                refine (HCn.out _ _ _ HM10.out).mono ?_
                rintro e w11 ⟨rfl, hb⟩
                have HI' := Lib.hid (HI.out.kept hb); clear HI; have HI := HI'; clear HI'
                clear hb HM10 HTn HCn
                have cA := HI.out.fw.bA.cell
                have lA := HI.out.fw.bA.lt
                have c9 := HI.out.nx.cell
                have l9 := HI.out.nx.lt
                go_upto_block 2 with fail
                go_cut [18, 19] (fun s18 s19 wx => s18 = .int .i64 o.n ∧ s19 = .int .i64 (swGo b.m M : Int) ∧ FlI w nb ob b9 g A n c a A' c' b.m M o wx)
                case first =>
                  as_aux_lemma =>
                    go_wp2_with fail
                    go_loopw [18, 19, 148] (fun s18 s19 s148 wr => ∃ q : Nat, q ≤ n ∧ s148 = .int .i64 (q : Int) ∧ s18 = .int .i64 (cntOn (M.take q) : Int) ∧ s19 = .int .i64 (swGo (b.m.take q) (M.take q) : Int) ∧ FlI w nb ob b9 g A n c a A' c' b.m M o wr) (fun _ _ s148 _ => n - (intOf s148).toNat)
                    case atStart => exact ⟨0, by omega, rfl, rfl, rfl, HI.out⟩
                    case round =>
                      clear HI cA lA c9 l9
                      obtain ⟨q, hq, rfl, rfl, rfl, hI⟩ := hrel
                      have HI := Lib.hid hI
                      have cN := hI.fw.bN.cell
                      have lN := hI.fw.bN.lt
                      clear hI
                      by_cases hlt : q < n
                      · have hqM : q < M.length := by omega
                        have hqB : q < b.m.length := by omega
                        obtain ⟨_, hatN⟩ := md_at (HI.out.ms hl2')
                        obtain ⟨bx, ox, ex, hbx, x0, x1, x2, x3⟩ := hatN q hqM
                        obtain ⟨_, hatB⟩ := md_at HI.out.fw.r
                        obtain ⟨bz, oz, ez, hbz, z0, z1, z2, z3⟩ := hatB q hqB
                        injection ex with ex
                        injection ex with ex1 ex2 _
                        subst ex1
                        subst ex2
                        rw [Nat.zero_add] at x0 x1 x2 x3
                        have hAt := HAt.out q hqB (by simpa using hqM)
                        have hct := cnt_take hqM
                        have hst := sw_take hqB hqM
                        have hcl : cntOn (M.take q) ≤ 16 := by have := cnt_le (M.take q); rw [List.length_take] at this; omega
                        have hsl : swGo (b.m.take q) (M.take q) ≤ 16 := by have := sw_le (b.m.take q) (M.take q); rw [List.length_take] at this; omega
                        have HC := Lib.hid hct
                        have HS := Lib.hid hst
                        clear hatN hatB hct hst
                        generalize b.m[q] = z at *
                        generalize M[q] = x at *
                        obtain ⟨xn, xq, xo, xb⟩ := x
                        obtain ⟨zn, zq, zo, zb⟩ := z
                        dsimp only at x0 x1 x2 x3 z0 z1 z2 z3 hAt HC HS
                        obtain ⟨rfl, rfl⟩ := hAt
                        generalize cntOn (M.take q) = cn at *
                        generalize swGo (b.m.take q) (M.take q) = sn at *
                        have hw1 : IntKind.i64.wrap ((cn : Int) + 1) = (cn : Int) + 1 := by rw [IntKind.wrap_i64]; omega
                        have hw2 : IntKind.i64.wrap ((sn : Int) + 1) = (sn : Int) + 1 := by rw [IntKind.wrap_i64]; omega
                        subst ez
                        cases xo <;> cases zo
                        all_goals
                          go_wp2_with fail
                          go_roundw
                          case rel => exact ⟨q + 1, by omega, by go_num, by rw [HC.out]; go_num, by rw [HS.out]; go_num, HI.out.kept bl_⟩
                          case measure => simp [intOf]; omega
                      · obtain rfl : q = n := by omega
                        go_wp2_with fail
                        go_meet
                        case rel => exact ⟨by rw [List.take_of_length_le (by omega), hon], by rw [List.take_of_length_le (by omega), List.take_of_length_le (by omega)], HI.out⟩
                as_aux_lemma =>
                  rename World => w20
                  obtain ⟨rfl, rfl, hI⟩ := hcut
                  clear HI cA lA c9 l9
                  have HI := Lib.hid hI
                  clear hI
                  have cA := HI.out.fw.bA.cell
                  have lA := HI.out.fw.bA.lt
                  have cN := HI.out.fw.bN.cell
                  have lN := HI.out.fw.bN.lt
                  have fN := HI.out.fw.bN.frozen
                  have cO := HI.out.ord.cell
                  have lO := HI.out.ord.lt
                  have c9 := HI.out.nx.cell
                  have l9 := HI.out.nx.lt
                  have q2 : decide (a.lim < (swGo b.m M : Int)) = false := by simp; omega
                  have hsu := ordSum_snoc o (l.take k)
                  rw [← HTk.out] at hsu
                  have HSu := Lib.hid hsu
                  clear hsu HTk
                  generalize ordSum (l.take k) = sm at *
                  have hwm : IntKind.i64.wrap (o.n * o.c) = o.n * o.c := by rw [IntKind.wrap_i64]; omega
                  have hwa : IntKind.i64.wrap (sm + o.n * o.c) = sm + o.n * o.c := by rw [IntKind.wrap_i64]; omega
                  go_wp2_with fail
                  go_roundw
                  case rel => exact ⟨k + 1, stepA b o, some ⟨g, 0, none⟩, n, by omega, by go_num, by rw [HSu.out], HG2.out, by
                    rw [hM]
                    exact ⟨put5_far HI.out.fw.bA (by have := HI.out.fw.lt; omega), put5_blk HI.out.fw.bN, by
                      have hk := put5_far (b := nb) (v0 := .slice (some ⟨g, 0, none⟩) n n) (v1 := .int .i64 a.lo) (v2 := .int .i64 a.hi) (v3 := .int .i64 a.cur) (v4 := .int .i64 a.lim) HI.out.row (blk_ne HI.out.row HI.out.fw.bN (by decide))
                      exact (BlkArm.at (b := ⟨M, 0, 0, 0, 0⟩) hk hl2').more hk.lt, Nat.le_refl _, put5_low HI.out.fw.low (by have := HI.out.fw.lt; omega), HI.out.fw.lt⟩⟩
                  case measure => simp [intOf]; omega
end Go.Proofs.YtfpjcnkfoehhmaaGreatDoor
