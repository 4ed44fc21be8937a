/- The law ArmLevels. -/
import Derived.Test.YtjanojmgnpfjeaaGreatDoorL3
import Derived.Test.YtjanojmgnpfjeaaGreatDoorL4
import Derived.Test.YtjanojmgnpfjeaaGreatDoorL5
import Derived.Test.YtjanojmgnpfjeaaGreatDoorEB
import Derived.Test.YtjanojmgnpfjeaaGreatDoorQr
import Derived.Test.YtjanojmgnpfjeaaGreatDoorDA
import Derived.Deep.DeepCutAuto
import Derived.Deep.CutBlock
namespace Go.Proofs.YtjanojmgnpfjeaaGreatDoor
open Go Go.RowKit Go.Sort Go.Shelf
set_option linter.unusedSimpArgs false
set_option linter.unusedVariables false
attribute [local go_sem] cell_if frozen_if grow_cell
theorem listed_any (B1 B2 : Nat) (A1 A2 : Option Addr) (n c1 c2 : Nat) (l : List Int) (e : Int) (w : World) (h1 : Reads w B1 1 A1 n (l.map (.int .i64))) (h2 : Reads w B2 1 A2 n (l.map (.int .i64))) (hB1 : B1 ≤ w.heap.size) (hB2 : B2 ≤ w.heap.size) (hn : n ≤ 400) (he : e ≠ 0 → n = 0) :
    Calls Tryz.prog 20 #[.slice A1 n c1, .int .i64 e, .int .i64 e, .slice A2 n c2] w fun en w' => en = .returned (.bool true) ∧ Below w.heap.size w w' := by
  by_cases h : e = 0
  · subst h
    exact listed_ok B1 B2 A1 A2 n c1 c2 l w h1 h2 hB1 hB2 hn
  · have h0 := he h
    subst h0
    exact listed_len A1 A2 0 c2 c1 e w h
theorem row_put5 {w : World} {base e size n b : Nat} {T : TypeId} {v v0 v1 v2 v3 v4 : Value} {xs : List Value} {c : Array Value} (h : w.ownsRow base e size v n xs) (hk : Blk w b T c) (ht : e ≠ T) :
    (((((w.setCell ⟨b, 0, none⟩ v0).setCell ⟨b, 1, none⟩ v1).setCell ⟨b, 2, none⟩ v2).setCell ⟨b, 3, none⟩ v3).setCell ⟨b, 4, none⟩ v4).ownsRow base e size v n xs :=
  row_set (row_set (row_set (row_set (row_set h hk ht) (hk.set_ 0 v0) ht) ((hk.set_ 0 v0).set_ 1 v1) ht) (((hk.set_ 0 v0).set_ 1 v1).set_ 2 v2) ht) ((((hk.set_ 0 v0).set_ 1 v1).set_ 2 v2).set_ 3 v3) ht
theorem levs_len (a : Ar) (l : List Nat) (amp : Int) : (levs a l amp).length = l.length := by unfold levs; rw [List.length_map]
set_option maxRecDepth 1000000 in
set_option maxHeartbeats 16000000 in
theorem levels_any (A A2 : Option Addr) (n c n2 c2 : Nat) (a : Ar) (l : List Nat) (amp : Int) (w : World) (hM : MsAt w w.heap.size A n a.m) (hn : n ≤ maxLen) (hnm : ∀ x ∈ a.m, x.n.size ≤ maxLen) (hR : Reads w w.heap.size 1 A2 n2 (l.map (Value.float .f32))) (hn2 : n2 ≤ maxLen) (hT : TabT w) :
    Calls Tryz.prog 3 #[.agg #[.slice A n c, .int .i64 a.lo, .int .i64 a.hi, .int .i64 a.cur, .int .i64 a.lim], .slice A2 n2 c2, .int .i64 amp] w fun e w' => e = .returned (.bool true) ∧ Below w.heap.size w w' := by
  have hl := (md_at hM).1
  have hl2 : l.length = n2 := by simpa using hR.1
  have hmx : maxLen = 9223372036854775807 := rfl
  rw [hmx] at hn hn2
  have HT := Lib.hid hT
  have HAw := Lib.hid (fun W (hW : Below w.heap.size w W) => awake_ok w W hT hW)
  have HSh := Lib.hid (fun W (hW : Below w.heap.size w W) => Short_any w.heap.size A n c a W (hM.below hW) hW.size (by unfold maxLen; omega))
  clear hmx hT
  cases hs : shortA a with
  | false =>
    rw [hs] at HSh
    clear hM hnm hl hs hR hl2
    as_aux_lemma =>
      go_enter Tryz.func3, Tryz.ntmps3
      go_wp2_with fail
      refine (HAw.out _ bl_).mono ?_
      rintro e w1 ⟨rfl, hb⟩
      have HA : Hid (Blk w1 (w.heap.size) 26 #[.slice A n c, .int .i64 a.lo, .int .i64 a.hi, .int .i64 a.cur, .int .i64 a.lim]) := Lib.hid bk_
      have HL : Hid (Below w.heap.size w w1) := Lib.hid bl_
      have hs1 := HL.out.size
      clear hb
      have cHA := HA.out.cell
      have lHA := HA.out.lt
      go_wp2_with fail
      refine (HSh.out _ HL.out).mono ?_
      rintro e w2 ⟨rfl, hb⟩
      clear cHA lHA
      have hs2 := hb.size
      have HL' := Lib.hid (HL.out.trans (hb.mono HL.out.size)); clear HL; have HL := HL'; clear HL'
      have HA' := Lib.hid (HA.out.kept hb); clear HA; have HA := HA'; clear HA'
      clear hb
      have cHA := HA.out.cell
      have lHA := HA.out.lt
      go_wp2_with fail
      refine (HAw.out _ HL.out).mono ?_
      rintro e w3 ⟨rfl, hb⟩
      clear cHA lHA
      have hs3 := hb.size
      have HL' := Lib.hid (HL.out.trans (hb.mono HL.out.size)); clear HL; have HL := HL'; clear HL'
      have HA' := Lib.hid (HA.out.kept hb); clear HA; have HA := HA'; clear HA'
      clear hb
      have cHA := HA.out.cell
      have lHA := HA.out.lt
      go_wp2_with fail
      go_ret
      exact ⟨rfl, HL.out⟩
  | true =>
    rw [hs] at HSh
    by_cases hok : n2 ≤ 32 ∨ n2 = 257
    case neg =>
      as_aux_lemma =>
        have hd : (32 : Int) < (n2 : Int) := by omega
        have hd2 : decide ((32 : Int) < (n2 : Int)) = true := decide_eq_true hd
        have hd3 : ¬ (n2 : Int) = 257 := by omega
        have hd4 : ((n2 : Int) == 257) = false := by simpa using hd3
        have hd5 : ((n2 : Int) != 257) = true := by simpa using hd3
        clear hM hnm hl hs hok hR hl2
        go_enter Tryz.func3, Tryz.ntmps3
        go_wp2_with fail
        refine (HAw.out _ bl_).mono ?_
        rintro e w1 ⟨rfl, hb⟩
        have HA : Hid (Blk w1 (w.heap.size) 26 #[.slice A n c, .int .i64 a.lo, .int .i64 a.hi, .int .i64 a.cur, .int .i64 a.lim]) := Lib.hid bk_
        have HL : Hid (Below w.heap.size w w1) := Lib.hid bl_
        have hs1 := HL.out.size
        clear hb
        have cHA := HA.out.cell
        have lHA := HA.out.lt
        go_wp2_with fail
        refine (HSh.out _ HL.out).mono ?_
        rintro e w2 ⟨rfl, hb⟩
        clear cHA lHA
        have hs2 := hb.size
        have HL' := Lib.hid (HL.out.trans (hb.mono HL.out.size)); clear HL; have HL := HL'; clear HL'
        have HA' := Lib.hid (HA.out.kept hb); clear HA; have HA := HA'; clear HA'
        clear hb
        have cHA := HA.out.cell
        have lHA := HA.out.lt
        go_wp2_with fail
        refine (HAw.out _ HL.out).mono ?_
        rintro e w3 ⟨rfl, hb⟩
        clear cHA lHA
        have hs3 := hb.size
        have HL' := Lib.hid (HL.out.trans (hb.mono HL.out.size)); clear HL; have HL := HL'; clear HL'
        have HA' := Lib.hid (HA.out.kept hb); clear HA; have HA := HA'; clear HA'
        clear hb
        have cHA := HA.out.cell
        have lHA := HA.out.lt
        go_wp2_with fail
        go_ret
        exact ⟨rfl, HL.out⟩
    case pos =>
      have hF := short_fit hs hnm
      have h17 := hF.len
      rw [hl] at h17
      have hn300 : n2 ≤ 300 := by omega
      have HOw := Lib.hid (fun W (hW : Below w.heap.size w W) => own_r w.heap.size A n c a W (hM.below hW) hW.size (by omega))
      have HFl := Lib.hid (fun W (hW : Below w.heap.size w W) => floats_any w.heap.size A2 n2 c2 l W (hR.below hW) hW.size (by omega))
      have HLv := Lib.hid (fun W A c A3 c3 (hm : MsAt W W.heap.size A n a.m) (hc : n ≤ c) (h2 : Reads W W.heap.size 1 A3 n2 (l.map (Value.float .f32))) => Levels_uni W.heap.size W.heap.size A A3 n c n2 c3 a l amp W hm (Nat.le_refl _) hF hc h2 (Nat.le_refl _) (by omega))
      have HMi := Lib.hid (fun W A c (hm : MsAt W W.heap.size A n a.m) (hc : n ≤ c) => Mirrored_uni W.heap.size A n c a W hm (Nat.le_refl _) hF hc)
      have HCk := Lib.hid (fun W (hW : Below w.heap.size w W) => rCheckArm_any w.heap.size A n c a W (hM.below hW) hW.size hF)
      have HCs := Lib.hid (fun W (hW : Below w.heap.size w W) => CheckSamples_any w.heap.size A2 n2 c2 l W (hR.below hW) hW.size (by omega))
      have HMs := Lib.hid hM
      have HRs := Lib.hid hR
      have HEq : Hid (levE a n2 l amp = 0 → levE1 a n2 = 0 ∧ levE2 l amp = 0) := Lib.hid (fun h => by
        unfold levE at h
        by_cases h1 : levE1 a n2 = 0
        · rw [if_pos h1] at h
          exact ⟨h1, h⟩
        · rw [if_neg h1] at h
          exact absurd h h1)
      have HE1 : Hid (levE1 a n2 = firstE [armE a, whenE (decide ((256 : Int) < (n2 : Int))) 5]) := Lib.hid rfl
      have HE2 : Hid (levE2 l amp = firstE [firstE (l.map sampE), ckR amp 1 16384]) := Lib.hid rfl
      have HE3 : Hid (levE1 a n2 = 0 → levE a n2 l amp = levE2 l amp) := Lib.hid (fun h => if_pos h)
      have HE4 : Hid (levE1 a n2 ≠ 0 → levE a n2 l amp = levE1 a n2) := Lib.hid (fun h => if_neg h)
      have HZ1 : Hid (levE a n2 l amp ≠ 0 → (if levE a n2 l amp = 0 then levs a l amp else []) = []) := Lib.hid (fun h => if_neg h)
      have HZ2 : Hid (levE a n2 l amp = 0 → (if levE a n2 l amp = 0 then levs a l amp else []) = levs a l amp) := Lib.hid (fun h => if_pos h)
      have HM0 : Hid (armE a ≠ 0 → resAr (armE a) (mirA a) = nilA) := Lib.hid (fun h => if_neg h)
      have HM1 : Hid (armE a = 0 → resAr (armE a) (mirA a) = mirA a) := Lib.hid (fun h => if_pos h)
      obtain ⟨mz, hmz⟩ : ∃ mz, resAr (armE a) (mirA a) = mz := ⟨_, rfl⟩
      obtain ⟨lz, hlz⟩ : ∃ lz, (if levE a n2 l amp = 0 then levs a l amp else []) = lz := ⟨_, rfl⟩
      obtain ⟨le, hle⟩ : ∃ le, levE a n2 l amp = le := ⟨_, rfl⟩
      have hlzn : lz.length ≤ 400 := by
        rw [← hlz]
        split
        · rw [levs_len, hl2]; omega
        · exact Nat.zero_le _
      have htl : mz.m.length ≤ 1000 := by
        rw [← hmz]
        unfold resAr
        split
        · rw [mirA_len, hl]; omega
        · exact Nat.zero_le _
      rw [hmz] at HMi HM0 HM1
      rw [hlz] at HLv HZ1 HZ2
      rw [hle] at HLv HEq HE3 HE4 HZ1 HZ2
      have hlz0 : le ≠ 0 → lz.length = 0 := fun h => by rw [HZ1.out h]; rfl
      have HLZ0 := Lib.hid hlz0
      obtain ⟨ee, hee⟩ : ∃ ee, armE a = ee := ⟨_, rfl⟩
      have HEe := Lib.hid hee
      rw [hee] at HMi HM0 HM1 HCk HE1
      obtain ⟨l1, hl1⟩ : ∃ l1, levE1 a n2 = l1 := ⟨_, rfl⟩
      obtain ⟨l2, hl2'⟩ : ∃ l2, levE2 l amp = l2 := ⟨_, rfl⟩
      have HL1 := Lib.hid hl1
      have HL2 := Lib.hid hl2'
      rw [hl1] at HE1 HE3 HE4 HEq
      rw [hl2'] at HE2 HE3 HEq
      obtain ⟨fs, hfs⟩ : ∃ fs, firstE (l.map sampE) = fs := ⟨_, rfl⟩
      have HFs := Lib.hid hfs
      rw [hfs] at HCs HE2
      obtain ⟨cw, hcw⟩ : ∃ cw, ckR amp 1 16384 = cw := ⟨_, rfl⟩
      have HCw := Lib.hid hcw
      have HRg := Lib.hid (fun W => rRange_any amp 1 16384 W)
      rw [hcw] at HRg HE2
      have HTb := Lib.hid (fun W A c (hm : MsAt W W.heap.size A mz.m.length mz.m) => told_r W.heap.size A mz.m.length c mz W hm (Nat.le_refl _) htl)
      have HSb := Lib.hid (fun W A1 A2 c1 c2 (h1 : MsAt W W.heap.size A1 mz.m.length mz.m) (h2 : MsAt W W.heap.size A2 mz.m.length mz.m) => Same_self W.heap.size W.heap.size A1 A2 mz.m.length c1 c2 mz W h1 h2 (Nat.le_refl _) (Nat.le_refl _) htl)
      clear hM hnm hF hs hee htl hl hR hl1 hl2' hfs hcw hmz hlz hle hlz0 hl2
      as_aux_lemma =>
        go_enter Tryz.func3, Tryz.ntmps3
        go_upto_region 1 with fail
        refine wp_world ?_
        intro w1 hW
        have HA : Hid (Blk w1 (w.heap.size) 26 #[.slice A n c, .int .i64 a.lo, .int .i64 a.hi, .int .i64 a.cur, .int .i64 a.lim]) := Lib.hid (by rw [hW]; exact Blk.new _ _ _)
        have HL : Hid (Below w.heap.size w w1) := Lib.hid (by rw [hW]; exact (Below.refl _ _).alloc (Nat.le_refl _) _)
        have hs1 := HL.out.size
        clear hW
        go_cut [31] (fun s31 wx => s31 = .bool false ∧ Below w1.heap.size w1 wx)
        case first =>
          as_aux_lemma =>
            have cHA := HA.out.cell
            have lHA := HA.out.lt
            go_wp2_with fail
            refine (HAw.out _ HL.out).mono ?_
            rintro e w2 ⟨rfl, hb⟩
            have HL2 := Lib.hid (HL.out.trans (hb.mono hs1))
            have HB2 := Lib.hid hb
            have HA2 := HA.out.kept hb
            clear cHA lHA HA hb
            have cHA := HA2.cell
            have lHA := HA2.lt
            go_wp2_with fail
            refine (HSh.out _ HL2.out).mono ?_
            rintro e w3 ⟨rfl, hb3⟩
            have HB3 := Lib.hid (HB2.out.trans (hb3.mono HB2.out.size))
            clear hb3 HB2 cHA lHA HA2
            by_cases h3 : n2 ≤ 32
            · have hd : ¬ (32 : Int) < (n2 : Int) := by omega
              have hd2 : decide ((32 : Int) < (n2 : Int)) = false := decide_eq_false hd
              clear hok
              go_wp2_with fail
              go_meet
              case rel => exact ⟨rfl, HB3.out⟩
            · obtain rfl : n2 = 257 := by omega
              clear hok
              go_wp2_with fail
              go_meet
              case rel => exact ⟨rfl, HB3.out⟩
        rename World => w2
        obtain ⟨rfl, hb⟩ := hcut
        clear hok HSh HAw
        have hs2 := hb.size
        have HL' := Lib.hid (HL.out.trans (hb.mono HL.out.size)); clear HL; have HL := HL'; clear HL'
        have HA' := Lib.hid (HA.out.kept hb); clear HA; have HA := HA'; clear HA'
        clear hb
        have cHA := HA.out.cell
        have lHA := HA.out.lt
        as_aux_lemma =>
          go_wp2_with fail
          refine (HOw.out _ HL.out).mono ?_
          rintro e w3 ⟨A3, c3, rfl, hm, hc, hb⟩
          have HM3 := Lib.hid hm; have HC3 := Lib.hid hc; clear hm hc
          clear cHA lHA
          have hs3 := hb.size
          have HL' := Lib.hid (HL.out.trans (hb.mono HL.out.size)); clear HL; have HL := HL'; clear HL'
          have HA' := Lib.hid (HA.out.kept hb); clear HA; have HA := HA'; clear HA'
          clear hb
          have cHA := HA.out.cell
          have lHA := HA.out.lt
          go_wp2_with fail
          refine (HFl.out _ HL.out).mono ?_
          rintro e w4 ⟨A4, c4, rfl, hrd, hb⟩
          have HR4 := Lib.hid hrd; clear hrd; have HM32 := Lib.hid (ms_kept HM3.out hb); clear HM3
          clear cHA lHA
          have hs4 := hb.size
          have HL' := Lib.hid (HL.out.trans (hb.mono HL.out.size)); clear HL; have HL := HL'; clear HL'
          have HA' := Lib.hid (HA.out.kept hb); clear HA; have HA := HA'; clear HA'
          clear hb
          have cHA := HA.out.cell
          have lHA := HA.out.lt
          go_wp2_with fail
          refine (HLv.out _ _ _ _ _ HM32.out HC3.out HR4.out).mono ?_
          rintro e w5 ⟨Aq, cq, rfl, hrd, hb⟩
          have FS := Lib.hid (⟨hrd⟩ : RdI w5 Aq _ _); clear hrd HM32 HC3 HR4
          clear cHA lHA
          have hs5 := hb.size
          have HL' := Lib.hid (HL.out.trans (hb.mono HL.out.size)); clear HL; have HL := HL'; clear HL'
          have HA' := Lib.hid (HA.out.kept hb); clear HA; have HA := HA'; clear HA'
          clear hb
          have cHA := HA.out.cell
          have lHA := HA.out.lt
          as_aux_lemma =>
            go_wp2_with fail
            refine (HOw.out _ HL.out).mono ?_
            rintro e w6 ⟨A6, c6, rfl, hm, hc, hb⟩
            have HM6 := Lib.hid hm; have HC6 := Lib.hid hc; clear hm hc
            clear cHA lHA
            have hs6 := hb.size
            have HL' := Lib.hid (HL.out.trans (hb.mono HL.out.size)); clear HL; have HL := HL'; clear HL'
            have HA' := Lib.hid (HA.out.kept hb); clear HA; have HA := HA'; clear HA'
            have FS' := Lib.hid (FS.out.kept hb); clear FS; have FS := FS'; clear FS'
            clear hb
            have cHA := HA.out.cell
            have lHA := HA.out.lt
            go_wp2_with fail
            refine (HMi.out _ _ _ HM6.out HC6.out).mono ?_
            rintro e w7 ⟨A7, c7, rfl, hm, hc, hb⟩
            clear HM6 HC6; have HM7 := Lib.hid hm; have HC7 := Lib.hid hc; clear hm hc
            clear cHA lHA
            have hs7 := hb.size
            have HL' := Lib.hid (HL.out.trans (hb.mono HL.out.size)); clear HL; have HL := HL'; clear HL'
            have HA' := Lib.hid (HA.out.kept hb); clear HA; have HA := HA'; clear HA'
            have FS' := Lib.hid (FS.out.kept hb); clear FS; have FS := FS'; clear FS'
            clear hb
            have cHA := HA.out.cell
            have lHA := HA.out.lt
            go_upto_region 5 with fail
            refine wp_world ?_
            intro w8 hW
            have HP := Lib.hid (show Blk w8 w7.heap.size 36 #[.slice A7 mz.m.length c7, .int .i64 mz.lo, .int .i64 mz.hi, .int .i64 mz.cur, .int .i64 mz.lim] from by rw [hW]; exact Blk.new _ _ _)
            have HPM := Lib.hid (show MsAt w8 w8.heap.size A7 mz.m.length mz.m from by rw [hW]; exact ms_kept HM7.out ((Below.refl _ _).alloc (Nat.le_refl _) _))
            have hb : Below w7.heap.size w7 w8 := by rw [hW]; exact (Below.refl _ _).alloc (Nat.le_refl _) _
            clear hW HM7 HC7
            clear cHA lHA
            have hs8 := hb.size
            have HL' := Lib.hid (HL.out.trans (hb.mono HL.out.size)); clear HL; have HL := HL'; clear HL'
            have HA' := Lib.hid (HA.out.kept hb); clear HA; have HA := HA'; clear HA'
            have FS' := Lib.hid (FS.out.kept hb); clear FS; have FS := FS'; clear FS'
            clear hb
            have cHA := HA.out.cell
            have lHA := HA.out.lt
            have cHP := HP.out.cell
            have lHP := HP.out.lt
            as_aux_lemma =>
              go_wp2_with fail
              refine (HCk.out _ HL.out).mono ?_
              rintro e w9 ⟨rfl, hb⟩
              clear cHA lHA cHP lHP
              have hs9 := hb.size
              have HL' := Lib.hid (HL.out.trans (hb.mono HL.out.size)); clear HL; have HL := HL'; clear HL'
              have HA' := Lib.hid (HA.out.kept hb); clear HA; have HA := HA'; clear HA'
              have FS' := Lib.hid (FS.out.kept hb); clear FS; have FS := FS'; clear FS'
              have HP' := Lib.hid (HP.out.kept hb); clear HP; have HP := HP'; clear HP'
              have HPM' := Lib.hid (ms_kept HPM.out hb); clear HPM; have HPM := HPM'; clear HPM'
              clear hb
              have cHA := HA.out.cell
              have lHA := HA.out.lt
              have cHP := HP.out.cell
              have lHP := HP.out.lt
              as_aux_lemma =>
                obtain ⟨wv, hwv⟩ : ∃ wv, whenE (decide ((256 : Int) < (n2 : Int))) 5 = wv := ⟨_, rfl⟩
                have HWh := Lib.hid (fun W => rWhen_any (decide ((256 : Int) < (n2 : Int))) 5 W)
                rw [hwv] at HWh HE1
                clear hwv
                go_wp2_with fail
                refine (calls_below (HWh.out _)).mono ?_
                rintro e w10 ⟨rfl, hb⟩
                clear cHA lHA cHP lHP
                have hs10 := hb.size
                have HL' := Lib.hid (HL.out.trans (hb.mono HL.out.size)); clear HL; have HL := HL'; clear HL'
                have HA' := Lib.hid (HA.out.kept hb); clear HA; have HA := HA'; clear HA'
                have FS' := Lib.hid (FS.out.kept hb); clear FS; have FS := FS'; clear FS'
                have HP' := Lib.hid (HP.out.kept hb); clear HP; have HP := HP'; clear HP'
                have HPM' := Lib.hid (ms_kept HPM.out hb); clear HPM; have HPM := HPM'; clear HPM'
                clear hb
                have cHA := HA.out.cell
                have lHA := HA.out.lt
                have cHP := HP.out.cell
                have lHP := HP.out.lt
                go_wp2_with fail
                refine (calls_below (rFirst_any (w10.heap.size + 1) _ 2 2 [ee, wv] _ (by simpa using Reads.new (size := 1) w10 (([ee, wv]).map (.int .i64)).toArray 3 2 rfl) (by unfold maxLen; decide))).mono ?_
                rintro e w11 ⟨rfl, hb⟩
                clear cHA lHA cHP lHP
                have hb := ((Below.refl _ _).alloc (Nat.le_refl _) _).trans (hb.mono (by simp))
                have hs11 := hb.size
                have HL' := Lib.hid (HL.out.trans (hb.mono HL.out.size)); clear HL; have HL := HL'; clear HL'
                have HA' := Lib.hid (HA.out.kept hb); clear HA; have HA := HA'; clear HA'
                have FS' := Lib.hid (FS.out.kept hb); clear FS; have FS := FS'; clear FS'
                have HP' := Lib.hid (HP.out.kept hb); clear HP; have HP := HP'; clear HP'
                have HPM' := Lib.hid (ms_kept HPM.out hb); clear HPM; have HPM := HPM'; clear HPM'
                clear hb
                have cHA := HA.out.cell
                have lHA := HA.out.lt
                have cHP := HP.out.cell
                have lHP := HP.out.lt
                rw [← HE1.out]
                go_upto_if 58 with fail
                go_cut [12] (fun s12 wx => s12 = .int .i64 le ∧ Below w11.heap.size w11 wx)
                case first =>
                  as_aux_lemma =>
                    clear HLv HMi HTb HSb HP HPM cHP lHP FS
                    by_cases h0 : l1 = 0
                    case pos =>
                      have HX := Lib.hid (HE3.out h0)
                      subst h0
                      go_wp2_with fail
                      refine (HCs.out _ HL.out).mono ?_
                      rintro e wx ⟨rfl, hbx⟩
                      have hsx := hbx.size
                      have HBx := Lib.hid hbx
                      clear hbx
                      go_wp2_with fail
                      refine (HRg.out _).mono ?_
                      rintro e wy ⟨rfl, hxy⟩
                      subst hxy
                      go_wp2_with fail
                      refine (calls_below (rFirst_any (wx.heap.size + 1) _ 2 2 [fs, cw] _ (by simpa using Reads.new (size := 1) wx (([fs, cw]).map (.int .i64)).toArray 3 2 rfl) (by unfold maxLen; decide))).mono ?_
                      rintro e wz ⟨rfl, hbz⟩
                      have HBz := Lib.hid (HBx.out.trans (((Below.refl _ _).alloc (Nat.le_refl _) _).trans (hbz.mono (by simp)) |>.mono hsx))
                      clear hbz
                      rw [← HE2.out, ← HX.out]
                      go_wp2_with fail
                      go_meet
                      case rel => exact ⟨rfl, HBz.out⟩
                    case neg =>
                      have hne : (l1 == 0) = false := by simpa using h0
                      have HX := Lib.hid (HE4.out h0)
                      go_wp2_with fail
                      go_meet
                      case rel => exact ⟨by rw [HX.out], Below.refl _ _⟩
                rename World => w12
                obtain ⟨rfl, hb⟩ := hcut
                clear cHA lHA cHP lHP
                have hs12 := hb.size
                have HL' := Lib.hid (HL.out.trans (hb.mono HL.out.size)); clear HL; have HL := HL'; clear HL'
                have HA' := Lib.hid (HA.out.kept hb); clear HA; have HA := HA'; clear HA'
                have FS' := Lib.hid (FS.out.kept hb); clear FS; have FS := FS'; clear FS'
                have HP' := Lib.hid (HP.out.kept hb); clear HP; have HP := HP'; clear HP'
                have HPM' := Lib.hid (ms_kept HPM.out hb); clear HPM; have HPM := HPM'; clear HPM'
                clear hb
                have cHA := HA.out.cell
                have lHA := HA.out.lt
                have cHP := HP.out.cell
                have lHP := HP.out.lt
                clear cHA lHA cHP lHP
                as_aux_lemma =>
                  clear HLv HMi HCk HCs HRg HE1 HE2 HE3 HE4 HWh
                  go_upto_if 66 with fail
                  refine wp_world ?_
                  intro W0 hW
                  have HK := Lib.hid (show Below w12.heap.size w12 W0 from by rw [hW]; exact (Below.refl _ _).alloc (Nat.le_refl _) _)
                  have HZ := Lib.hid (show Blk W0 w12.heap.size 26 #[.slice none 0 0, .int .i64 0, .int .i64 0, .int .i64 0, .int .i64 0] from by rw [hW]; exact Blk.new _ _ _)
                  clear hW
                  go_cut [13] (fun s13 wx => wx.ownsRow w12.heap.size 3 1 s13 lz.length (lz.map (.int .i64)) ∧ Blk wx w12.heap.size 26 #[.slice none 0 0, .int .i64 0, .int .i64 0, .int .i64 0, .int .i64 0] ∧ Below w12.heap.size w12 wx)
                  case first =>
                    as_aux_lemma =>
                      have HLw := Lib.hid (HL.out.trans (HK.out.mono HL.out.size))
                      have HAw := HA.out.kept HK.out
                      have cHA := HAw.cell
                      have lHA := HAw.lt
                      clear HAw HP HPM FS HTb HSb HL HA
                      by_cases h0 : le = 0
                      case pos =>
                        obtain ⟨g1, g2⟩ := HEq.out h0
                        have hz := HZ2.out h0
                        have HLe : Hid (armE a = 0 ∧ n2 ≤ 256 ∧ firstE (l.map sampE) = 0 ∧ (1 ≤ amp ∧ amp ≤ 16384)) := Lib.hid (by
                          have k1 := HL1.out.trans g1
                          have k2 := HL2.out.trans g2
                          unfold levE1 at k1
                          unfold levE2 at k2
                          rw [firstE_cons, firstE_cons] at k1 k2
                          obtain ⟨m1, m2⟩ := or0_zero k1
                          obtain ⟨m3, m4⟩ := or0_zero k2
                          have m5 := whenE_zero (by decide) (or0_zero m2).1
                          have := of_decide_eq_false m5
                          exact ⟨m1, by omega, m3, ckR_zero (or0_zero m4).1⟩)
                        have HX := Lib.hid (fun W (hW : Below w.heap.size w W) => rLevels_any w.heap.size w.heap.size A A2 n c n2 c2 a l amp sampV W (HMs.out.below hW) hW.size h17 (HRs.out.below hW) hW.size (by omega) (samps_ok HLe.out.2.2.1) HLe.out.2.2.2)
                        have HZz : Hid ((l.map fun x => levI (usL a).length amp (sampV x)) = lz) := Lib.hid hz.symm
                        rw [HZz.out] at HX
                        clear hz g1 g2
                        subst h0
                        go_wp2_with fail
                        refine (HX.out _ HLw.out).mono ?_
                        rintro e wx ⟨v13, rfl, hr, hb⟩
                        have HR13 := Lib.hid (row_base hr HK.out.size)
                        have HZx := Lib.hid (HZ.out.kept hb)
                        have HKx := Lib.hid (HK.out.trans (hb.mono HK.out.size))
                        clear hr hb
                        go_wp2_with fail
                        go_meet
                        case rel => exact ⟨HR13.out, HZx.out, HKx.out⟩
                      case neg =>
                        have hne : (le == 0) = false := by simpa using h0
                        have HX := Lib.hid (HZ1.out h0)
                        go_wp2_with fail
                        go_meet
                        case rel => exact ⟨by rw [HX.out]; exact World.ownsRow_nil _ _ _ _, HZ.out, HK.out⟩
                  rename World => W1
                  obtain ⟨hr13, hz, hb⟩ := hcut
                  clear HK HZ HEq HL1 HL2 HZ1 HZ2 HRs
                  have HK := Lib.hid hb
                  have HZ := Lib.hid hz
                  have HR13 := Lib.hid hr13
                  clear hb hz hr13
                  go_upto_if 72 with fail
                  go_cut [] (fun wx => ∃ (A14 : Option Addr) (c14 : Nat), Blk wx w12.heap.size 26 #[.slice A14 mz.m.length c14, .int .i64 mz.lo, .int .i64 mz.hi, .int .i64 mz.cur, .int .i64 mz.lim] ∧ MsAt wx wx.heap.size A14 mz.m.length mz.m ∧ wx.ownsRow w12.heap.size 3 1 u13 lz.length (lz.map (.int .i64)) ∧ Below w12.heap.size w12 wx)
                  case first =>
                    as_aux_lemma =>
                      have HLw := Lib.hid (HL.out.trans (HK.out.mono HL.out.size))
                      have HAw := HA.out.kept HK.out
                      have cHA := HAw.cell
                      have lHA := HAw.lt
                      clear HAw HP HPM FS HTb HSb HL HA
                      by_cases h0 : ee = 0
                      case pos =>
                        have hE : armE a = 0 := HEe.out.trans h0
                        have HX := Lib.hid (fun W (hW : Below w.heap.size w W) => rMirrored_any w.heap.size A n c a W (HMs.out.below hW) hW.size h17 hE)
                        have hmz := HM1.out h0
                        unfold RMiRes at HX
                        rw [← hmz] at HX
                        have hmn : Hid (n = mz.m.length) := Lib.hid (by rw [hmz, mirA_len, (md_at HMs.out).1])
                        clear hE hmz
                        subst h0
                        go_wp2_with fail
                        refine (HX.out _ HLw.out).mono ?_
                        rintro e wx ⟨A14, c14, rfl, hm, hc, hb⟩
                        have hm' := hm
                        have HZx := HZ.out.kept hb
                        have cZ := HZx.cell
                        have fZ := HZx.frozen
                        have lZ := HZx.lt
                        have K1 := Lib.hid (put5_blk (v0 := .slice A14 n c14) (v1 := .int .i64 mz.lo) (v2 := .int .i64 mz.hi) (v3 := .int .i64 mz.cur) (v4 := .int .i64 mz.lim) HZx)
                        have K2 := Lib.hid (ms_put5 (v0 := .slice A14 n c14) (v1 := .int .i64 mz.lo) (v2 := .int .i64 mz.hi) (v3 := .int .i64 mz.cur) (v4 := .int .i64 mz.lim) hm HZx)
                        have K3 := Lib.hid (row_put5 (v0 := .slice A14 n c14) (v1 := .int .i64 mz.lo) (v2 := .int .i64 mz.hi) (v3 := .int .i64 mz.cur) (v4 := .int .i64 mz.lim) (own_kept HR13.out hb) HZx (by decide))
                        have K4 := Lib.hid (put5_low (b := w12.heap.size) (v0 := .slice A14 n c14) (v1 := .int .i64 mz.lo) (v2 := .int .i64 mz.hi) (v3 := .int .i64 mz.cur) (v4 := .int .i64 mz.lim) (HK.out.trans (hb.mono HK.out.size)) (Nat.le_refl _))
                        clear hm hm' hc hb HZx cHA lHA
                        go_wp2_with fail
                        go_meet
                        case rel => exact ⟨A14, c14, by rw [← hmn.out]; exact K1.out, by rw [← hmn.out]; exact K2.out, K3.out, K4.out⟩
                      case neg =>
                        have hne : (ee == 0) = false := by simpa using h0
                        have HX := Lib.hid (HM0.out h0)
                        go_wp2_with fail
                        go_meet
                        case rel => exact ⟨none, 0, by rw [HX.out]; exact HZ.out, by rw [HX.out]; exact ms_nil _ _, HR13.out, HK.out⟩
                  rename World => w13
                  obtain ⟨A14, c14, hz, hm14, hr13, hb⟩ := hcut
                  clear HK HZ HR13 HM0 HM1 HMs HEe
                  have HZ := Lib.hid hz
                  have HM14 := Lib.hid hm14
                  obtain ⟨A13, c13, rfl, _, _, hrd⟩ := own_form hr13
                  have HQ := Lib.hid (⟨hrd⟩ : RdI w13 A13 _ _)
                  clear hz hm14 hr13 hrd
                  have hs13 := hb.size
                  have HL' := Lib.hid (HL.out.trans (hb.mono HL.out.size)); clear HL; have HL := HL'; clear HL'
                  have HA' := Lib.hid (HA.out.kept hb); clear HA; have HA := HA'; clear HA'
                  have FS' := Lib.hid (FS.out.kept hb); clear FS; have FS := FS'; clear FS'
                  have HP' := Lib.hid (HP.out.kept hb); clear HP; have HP := HP'; clear HP'
                  have HPM' := Lib.hid (ms_kept HPM.out hb); clear HPM; have HPM := HPM'; clear HPM'
                  clear hb
                  have cHA := HA.out.cell
                  have lHA := HA.out.lt
                  have cHP := HP.out.cell
                  have lHP := HP.out.lt
                  as_aux_lemma =>
                    have cHZ := HZ.out.cell
                    have lHZ := HZ.out.lt
                    have hc0 := HLZ0.out
                    have HLs := Lib.hid (fun W (hW : Below w13.heap.size w13 W) => listed_any W.heap.size W.heap.size Aq A13 lz.length cq c13 lz le W (FS.out.kept hW).out (HQ.out.kept hW).out (Nat.le_refl _) (Nat.le_refl _) hlzn hc0)
                    clear hc0 HLZ0
                    go_wp2_with fail
                    (refine wp_region_calm [] [0, 1, 2, 3, 4, 5, 6, 8] 9 (by kernel_rfl) rfl (by kernel_rfl) (by kernel_rfl) (by kernel_rfl) ?_; simp only [pickB, List.filterMap_cons, List.filterMap_nil, List.getElem?_toArray, List.getElem?_cons_zero, List.getElem?_cons_succ]; (repeat (first | ((first | (with_reducible refine quietL_plain rfl (fun K hK => ?_)) | (with_reducible refine quietL_want (by with_unfolding_all rfl) (fun K hK => ?_))); (apply Exists.intro; refine ⟨fun wx hx => ?_, ?_⟩; (· (have hcx := ifs_ex hx); simp [go_sem, *, ↓IntWalk.iteOmega] <;> (first | rfl | exact ⟨rfl, rfl⟩ | (with_reducible exact calls_B (HLs.out _ (Ex.low hx))))); (simp only [Act.put, List.setIfInBounds_toArray, List.set_cons_zero, List.set_cons_succ]; refine hK _ ?_; clear hK K))) | ((with_reducible refine quietL_skip (by with_unfolding_all rfl) ?_); simp only [Act.put, List.setIfInBounds_toArray, List.set_cons_zero, List.set_cons_succ]))); refine quietL_nil ?_)
                    (refine anyB_one_want (i := 7) (by kernel_rfl) rfl (by kernel_rfl) ?_; intro w14 hb14 K hK; have hs14 := hb14.size; (try simp at hs14); go_wp2_with fail)
                    refine (HTb.out _ _ _ (ms_kept HPM.out hb14)).mono ?_
                    rintro e w15 ⟨At1, ct1, rfl, hm, _, hb15⟩
                    have hs15 := hb15.size
                    have HM4 := Lib.hid hm
                    clear hm
                    (go_wp2; refine ⟨xs_, ?_⟩)
                    (refine anyB_one_want (i := 9) (by kernel_rfl) rfl (by kernel_rfl) ?_; intro w16 hb16 K hK; have hs16 := hb16.size; (try simp at hs16); go_wp2_with fail)
                    refine (HSb.out _ _ _ _ _ (ms_kept HM4.out hb16) (ms_kept (ms_kept (ms_kept HM14.out hb14) hb15) hb16)).mono ?_
                    rintro e w17 ⟨rfl, hb17⟩
                    have hs17 := hb17.size
                    (go_wp2; refine ⟨xs_, ?_⟩)
                    (refine anyB_quiet_at (by kernel_rfl) calm_panic xs_ 1 [10, 11, 12, 13, 14, 15] _ _ (by kernel_rfl) (by decide +kernel) ?_; simp only [pickB, List.filterMap_cons, List.filterMap_nil, List.getElem?_toArray, List.getElem?_cons_zero, List.getElem?_cons_succ]; (repeat (first | ((first | (with_reducible refine quietL_plain rfl (fun K hK => ?_)) | (with_reducible refine quietL_want (by with_unfolding_all rfl) (fun K hK => ?_))); (apply Exists.intro; refine ⟨fun wx hx => ?_, ?_⟩; (· (have hcx := ifs_ex hx); simp [go_sem, *, ↓IntWalk.iteOmega] <;> (first | rfl | exact ⟨rfl, rfl⟩ | fail)); (simp only [Act.put, List.setIfInBounds_toArray, List.set_cons_zero, List.set_cons_succ]; refine hK _ ?_; clear hK K))) | ((with_reducible refine quietL_skip (by with_unfolding_all rfl) ?_); simp only [Act.put, List.setIfInBounds_toArray, List.set_cons_zero, List.set_cons_succ]))); refine quietL_nil ?_)
                    (refine anyB_one (i := 16) (by kernel_rfl) rfl rfl ?_; intro w18 hb18 K hK; have hs18 := hb18.size; (try simp at hs18); go_wp2; refine ⟨xs_, ?_⟩)
                    (refine anyB_end (by kernel_rfl) ?_; intro w19 hb19; have hs19 := hb19.size; (try simp at hs19); simp only [Calm])
                    have hb := hb14.trans ((hb15.trans ((hb16.trans ((hb17.trans ((hb18.trans ((hb19).mono hs18)).mono hs17)).mono hs16)).mono hs15)).mono hs14)
                    have HLz := Lib.hid (HL.out.trans (hb.mono HL.out.size))
                    clear hb hb14 hb15 hb16 hb17 hb18 hb19 cHA lHA cHP lHP cHZ lHZ
                    go_wp2_with fail
                    go_ret
                    exact ⟨by first | rfl | (simp; done), HLz.out⟩
end Go.Proofs.YtjanojmgnpfjeaaGreatDoor
