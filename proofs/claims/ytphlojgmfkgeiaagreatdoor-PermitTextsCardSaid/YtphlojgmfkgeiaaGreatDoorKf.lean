/- Joined texts: YZ ZA ZB ZC. -/
import Derived.Test.YtphlojgmfkgeiaaGreatDoorKe
import Derived.Test.YtphlojgmfkgeiaaGreatDoorKa
import Derived.Laws.EntriesVeiled
/- A yard in a state. -/
namespace Go.Proofs.YtphlojgmfkgeiaaGreatDoor
open Go.RowKit Go.Sort Go.Shelf
set_option linter.unusedSimpArgs false
set_option linter.unusedVariables false
attribute [local go_sem] cell_if frozen_if grow_cell
def withTo (l : List Sw) (s : Int) (k : Nat) : List Sw := l.mapIdx fun i x => if i < k then { x with c := bitB s i } else x
theorem withTo_zero (l : List Sw) (s : Int) : withTo l s 0 = l := by
  refine List.ext_getElem (by simp [withTo]) fun i h1 h2 => ?_
  simp [withTo]
theorem withTo_all (l : List Sw) (s : Int) : withTo l s l.length = withL l s := by
  refine List.ext_getElem (by simp [withTo, withL]) fun i h1 h2 => ?_
  have : i < l.length := by simpa [withL] using h2
  simp [withTo, withL, this]
theorem withTo_len (l : List Sw) (s : Int) (k : Nat) : (withTo l s k).length = l.length := by simp [withTo]
theorem withTo_succ (l : List Sw) (s : Int) (k : Nat) : (withTo l s k).modify k (fun x => { x with c := bitB s k }) = withTo l s (k + 1) := by
  refine List.ext_getElem (by simp [withTo]) fun i h1 h2 => ?_
  simp only [withTo, List.getElem_modify, List.getElem_mapIdx]
  rcases Nat.lt_trichotomy i k with h | h | h
  · rw [if_neg (by omega), if_pos h, if_pos (by omega)]
  · subst h; rw [if_pos rfl, if_neg (by omega), if_pos (by omega)]
  · rw [if_neg (by omega), if_neg (by omega), if_neg (by omega)]
theorem OwnYd.bit {base : Nat} {y : Yd} {l : List Sw} {s : Int} {k : Nat} {v0 v2 : Value} {g : Nat} {w : World} (h : OwnYd base { y with w := withTo l s k } v0 v2 g w) (hk : k < l.length) : OwnYd base { y with w := withTo l s (k + 1) } v0 v2 g (w.setCell ⟨g, k * 5 + 4, none⟩ (.bool (bitB s k))) := by
  have := h.close (i := k) (bitB s k) (by simpa [withTo_len] using hk)
  rwa [withTo_succ] at this
theorem and_one {a : Int} (h0 : 0 ≤ a) (h1 : a < 1000000) : bits BinOp.and IntKind.i64 a 1 = a % 2 := by
  obtain ⟨n, rfl⟩ := Int.eq_ofNat_of_zero_le h0
  have hb : bits BinOp.and IntKind.i64 (n : Int) 1 = IntKind.i64.wrap (((BitVec.ofInt 64 (n : Int) &&& BitVec.ofInt 64 1).toNat : Nat) : Int) := rfl
  have m1 : ((n : Int) % ((2 ^ 64 : Nat) : Int)).toNat = n := by omega
  have m2 : (BitVec.ofInt 64 1).toNat = 1 := by decide
  rw [hb, BitVec.toNat_and, BitVec.toNat_ofInt, m2, m1, Nat.and_one_is_mod]
  first
    | (show wrap64 _ = _; unfold wrap64; omega)
    | (simp [IntKind.wrap, IntKind.bits, IntKind.signed]; omega)
set_option maxRecDepth 100000 in
set_option maxHeartbeats 2000000 in
theorem with_any (B : Nat) (A0 A1 A2 : Option Addr) (n0 n1 n2 c0 c1 c2 : Nat) (y : Yd) (s : Int) (w : World) (hY : YdAt w B A0 A1 A2 n0 n1 n2 y) (hB : B ≤ w.heap.size) (h0 : n0 ≤ 1000) (h1 : n1 ≤ 9) (h2 : n2 ≤ 1000) (hs0 : 0 ≤ s) (hs1 : s < 1000000) :
    Calls Tryz.prog 120 #[.agg #[.slice A0 n0 c0, .slice A1 n1 c1, .slice A2 n2 c2], .int .i64 s] w (OwnRes w (y.at s)) := by
  have HO := Lib.hid (fun W (hW : Below w.heap.size w W) => owned_any B A0 A1 A2 n0 n1 n2 c0 c1 c2 y W (hY.below (hW.mono hB)) (by have := hW.size; omega) h0 (by omega) h2)
  have hl1 := (sw_at hY.hw).1
  have HL := Lib.hid hl1
  clear hY
  go_enter Tryz.func120, Tryz.ntmps120
  go_wp2_with fail
  refine (HO.out _ bl_).mono ?_
  rintro e w1 ⟨A0', A2', c0', c2', g, rfl, hO, hb1⟩
  have hsz1 := hb1.size
  simp at hsz1
  have hg := hO.2.2.1
  simp at hg
  have hlt := hO.2.1.lt
  have hng : w1.heap.size ≠ g := by omega
  have b4 : Blk w1 (w.heap.size + 1) 41 #[.slice none 0 0, .slice none 0 0, .slice none 0 0] := (show Blk _ _ _ _ from bk_)
  have hO' : OwnYd w.heap.size { y with w := withTo y.w s 0 } (.slice A0' y.s.length c0') (.slice A2' y.p.length c2') g w1 := by rw [withTo_zero]; exact hO.base (by simp; omega)
  have HO1 := Lib.hid hO'
  clear hO hO'
  rw [hl1]
  go_wp2_with fail
  go_loopw [12] (fun i wr => ∃ k : Nat, k ≤ n1 ∧ i = .int .i64 k ∧ OwnYd w.heap.size { y with w := withTo y.w s k } (.slice A0' y.s.length c0') (.slice A2' y.p.length c2') g wr ∧ Blk wr w1.heap.size 41 #[.slice A0' y.s.length c0', .slice (some ⟨g, 0, none⟩) n1 n1, .slice A2' y.p.length c2'] ∧ Blk wr (w.heap.size + 1) 41 #[.slice none 0 0, .slice none 0 0, .slice none 0 0] ∧ Below w.heap.size w wr) (fun i _ => n1 - (intOf i).toNat)
  case atStart => exact ⟨0, by omega, rfl, (HO1.out.base (Nat.le_refl _)).kept bl_, (show Blk _ _ _ _ from bk_), (show Blk _ _ _ _ from bk_), bl_⟩
  case round =>
    obtain ⟨k, hk, rfl, hOk, bo, bz, hb⟩ := hrel
    have hsr := hb.size
    have co := bo.cell
    have fo := bo.frozen
    have lo := bo.lt
    have cz := bz.cell
    have fz := bz.frozen
    have hfr := hOk.2.1.frozen
    have hgl := hOk.2.1.lt
    by_cases hlt2 : k < n1
    · have hkl : k < y.w.length := by rw [HL.out]; exact hlt2
      have HB := Lib.hid hOk
      clear hOk
      have HS : bits BinOp.and IntKind.i64 (s / 2 ^ k) 1 = s / 2 ^ k % 2 := and_one (Int.ediv_nonneg hs0 (Int.le_of_lt (Int.pow_pos (by omega)))) (Int.lt_of_le_of_lt (Int.ediv_le_self _ hs0) hs1)
      go_wp2_with fail
      (refine wp_region_calm [g] [0, 1, 2, 3, 4, 5, 6, 7, 8, 9] 1 (by kernel_rfl) rfl (by kernel_rfl) (by kernel_rfl) (by kernel_rfl) ?_; simp only [pickB, List.filterMap_cons, List.filterMap_nil, List.getElem?_toArray, List.getElem?_cons_zero, List.getElem?_cons_succ]; (repeat (first | ((first | (with_reducible refine quietL_plain rfl (fun K hK => ?_)) | (with_reducible refine quietL_want (by with_unfolding_all rfl) (fun K hK => ?_))); (apply Exists.intro; refine ⟨fun wx hx => ?_, ?_⟩; (· (have hcx := ifs_ex hx); simp [go_sem, *, ↓IntWalk.iteOmega] <;> (first | rfl | exact ⟨rfl, rfl⟩ | fail)); (simp only [Act.put, List.setIfInBounds_toArray, List.set_cons_zero, List.set_cons_succ]; refine hK _ ?_; clear hK K))) | ((with_reducible refine quietL_skip (by with_unfolding_all rfl) ?_); simp only [Act.put, List.setIfInBounds_toArray, List.set_cons_zero, List.set_cons_succ]))); refine quietL_nil ?_)
      refine anyB_one (i := 10) (by kernel_rfl) rfl rfl ?_
      intro w2 hb2 K hK
      have hO2 := HB.out.kept hb2
      have f4 := hO2.2.1.frozen
      have l4 := hO2.2.1.lt
      have hkw : k < (withTo y.w s k).length := by rw [withTo_len]; exact hkl
      have e4 : w2.cell? ⟨g, k * 5 + 4, none⟩ = some (.bool (withTo y.w s k)[k].c) := by rw [hO2.2.1.cell, sws_get _ _ hkw]
      generalize (withTo y.w s k)[k].c = q at *
      clear hO2 hkw
      go_wp2
      refine ⟨xs_, ?_⟩
      refine anyB_end (by kernel_rfl) ?_
      intro w3 hb3
      rw [show (s / 2 ^ k % 2 == 1) = bitB s k from rfl] at hb3
      have hO3 := ((HB.out.kept hb2).bit hkl).kept hb3
      have bo3 := ((bo.kept hb2).far (p := ⟨g, k * 5 + 4, none⟩) hng (.bool (bitB s k))).kept hb3
      have bz3 := ((bz.kept hb2).far (p := ⟨g, k * 5 + 4, none⟩) (by simp; omega) (.bool (bitB s k))).kept hb3
      have hbb := hb.trans (hb2.mono hb.size)
      have hbl3 : Below w.heap.size w w3 := (hbb.setCell (p := ⟨g, k * 5 + 4, none⟩) (by simp; omega) (.bool (bitB s k))).trans (hb3.mono (by have := hbb.size; simp [World.setCell]; omega))
      have H3 := Lib.hid (And.intro hO3 (And.intro bo3 (And.intro bz3 hbl3)))
      clear hO3 bo3 bz3 hbl3 hb3 hb2 hb bo bz co fo lo cz fz e4 f4 l4
      simp only [Calm]
      go_wp2_with fail
      go_roundw
      case rel => exact ⟨k + 1, by omega, by go_num, H3.out⟩
      case measure => simp [intOf]; omega
    · obtain rfl : k = n1 := by omega
      have hO6 := ((hOk.far (i := 0) bz (.slice A0' y.s.length c0') (by decide) (by decide) (by decide)).far (i := 1) (bz.set_ 0 _) (.slice (some ⟨g, 0, none⟩) k k) (by decide) (by decide) (by decide)).far (i := 2) ((bz.set_ 0 _).set_ 1 _) (.slice A2' y.p.length c2') (by decide) (by decide) (by decide)
      have hbl6 := ((hb.setCell (p := ⟨w.heap.size + 1, 0, none⟩) (by simp) (.slice A0' y.s.length c0')).setCell (p := ⟨w.heap.size + 1, 1, none⟩) (by simp) (.slice (some ⟨g, 0, none⟩) k k)).setCell (p := ⟨w.heap.size + 1, 2, none⟩) (by simp) (.slice A2' y.p.length c2')
      have ck := (((bz.set_ 0 (.slice A0' y.s.length c0')).set_ 1 (.slice (some ⟨g, 0, none⟩) k k)).set_ 2 (.slice A2' y.p.length c2')).cell
      have HO6 := Lib.hid (And.intro hO6 hbl6)
      clear hO6 hbl6
      go_wp2_with fail
      refine bodyPost_ret (v := .agg #[.slice A0' y.s.length c0', .slice (some ⟨g, 0, none⟩) k k, .slice A2' y.p.length c2']) (by simp [results, Tryz.results120, go_sem, ck]) rfl ?_
      have HW : withTo y.w s k = withL y.w s := by rw [← HL.out, withTo_all]
      rw [HW] at HO6
      refine ⟨A0', A2', c0', c2', g, ?_, HO6.out.1, HO6.out.2⟩
      show Ending.returned (.agg #[_, .slice _ k k, _]) = .returned (.agg #[_, .slice _ (withL y.w s).length (withL y.w s).length, _])
      rw [withL_len, HL.out]
      rfl
end Go.Proofs.YtphlojgmfkgeiaaGreatDoor
/- Lists that are equal; the locks. -/
namespace Go.Proofs.YtphlojgmfkgeiaaGreatDoor
open Go.RowKit Go.Sort Go.Shelf
set_option linter.unusedSimpArgs false
set_option linter.unusedVariables false
attribute [local go_sem] cell_if frozen_if grow_cell
theorem Equal_any (B1 B2 : Nat) (A1 A2 : Option Addr) (n1 n2 c1 c2 : Nat) (xs ys : List Int) (w : World) (h1 : Reads w B1 1 A1 n1 (xs.map (Value.int .i64))) (h2 : Reads w B2 1 A2 n2 (ys.map (Value.int .i64))) (hB1 : B1 ≤ w.heap.size) (hB2 : B2 ≤ w.heap.size) (hn : n1 ≤ maxLen) (hm : n2 ≤ maxLen) :
    Calls Tryz.prog 194 #[.slice A1 n1 c1, .slice A2 n2 c2] w fun e w' => e = .returned (.bool (sameI xs ys)) ∧ Below w.heap.size w w' := by
  unfold maxLen at hn hm
  have hl1 : xs.length = n1 := by simpa using h1.1
  have hl2 : ys.length = n2 := by simpa using h2.1
  have HL1 := Lib.hid hl1
  have HL2 := Lib.hid hl2
  clear hl1 hl2
  by_cases hne : n1 = n2
  · subst hne
    go_enter Tryz.func194, Tryz.ntmps194
    go_wp2_with fail
    go_loopw [13] (fun i wr => ∃ k : Nat, k ≤ n1 ∧ i = .int .i64 k ∧ sameI xs ys = sameI (xs.drop k) (ys.drop k) ∧ Below w.heap.size w wr) (fun i _ => n1 - (intOf i).toNat)
    case atStart => exact ⟨0, by omega, rfl, rfl, bl_⟩
    case round =>
      obtain ⟨k, hk, rfl, hf, hb⟩ := hrel
      have Hf := Lib.hid hf; clear hf
      by_cases hlt : k < n1
      · obtain ⟨b, o, u, rfl, hbb, hu, hc⟩ := (h1.below (hb.mono hB1)).at_ hlt
        obtain ⟨b', o', u', rfl, hbb', hu', hc'⟩ := (h2.below (hb.mono hB2)).at_ hlt
        have hs := hb.size
        have hl1 : b < wr.heap.size := by omega
        have hl2 : b' < wr.heap.size := by omega
        have hkl : k < xs.length := by rw [HL1.out]; exact hlt
        have hkl' : k < ys.length := by rw [HL2.out]; exact hlt
        obtain rfl : u = (Value.int .i64) xs[k] := by simpa [hkl] using hu.symm
        obtain rfl : u' = (Value.int .i64) ys[k] := by simpa [hkl'] using hu'.symm
        have Hd : Hid (xs.drop k = xs[k] :: xs.drop (k + 1)) := List.drop_eq_getElem_cons hkl
        have Hd' : Hid (ys.drop k = ys[k] :: ys.drop (k + 1)) := List.drop_eq_getElem_cons hkl'
        clear hu hu'
        generalize xs[k] = x at *
        generalize ys[k] = z at *
        go_wp2_with fail
        (refine wp_region_all_below (by kernel_rfl) (by kernel_rfl) ?_; (repeat (go_big_quiet_step (fail))); refine wpQuiet_nil ?_)
        intro w1 hb1
        obtain ⟨hc1, hf1⟩ := ifs_of hb1; have hs1 := hb1.size; (try simp at hs1)
        cases hz : (x == z) with
        | true =>
          go_wp2_with fail
          go_roundw
          case rel => exact ⟨k + 1, by omega, by go_num, by rw [Hf.out, Hd.out, Hd'.out, sameI]; simp [hz], bl_⟩
          case measure => simp [intOf]; omega
        | false =>
          go_wp2_with fail
          go_ret
          exact ⟨by rw [Hf.out, Hd.out, Hd'.out, sameI]; simp [hz], bl_⟩
      · obtain rfl : k = n1 := by omega
        go_wp2_with fail
        go_ret
        exact ⟨by rw [Hf.out, List.drop_eq_nil_of_le (by rw [HL1.out]; exact Nat.le_refl _), List.drop_eq_nil_of_le (by rw [HL2.out]; exact Nat.le_refl _)]; rfl, bl_⟩
  · have e : sameI xs ys = false := sameI_len xs ys (by rw [HL1.out, HL2.out]; exact hne)
    have hq : ((n1 : Int) != (n2 : Int)) = true := by simp; omega
    rw [e]
    clear e
    go_enter Tryz.func194, Tryz.ntmps194
    go_wp2_with fail
    go_ret
    exact ⟨by first | rfl | (simp; done), bl_⟩
theorem sameI_eq : ∀ a b : List Int, sameI a b = (a == b)
  | [], [] => rfl
  | [], _ :: _ => rfl
  | _ :: _, [] => rfl
  | x :: r, z :: t => by rw [sameI, sameI_eq r t]; rfl
section
variable {P : Program} {md : Region.Mode} {ops : Array Oper} {Q : Exit → Act → World → Prop} {X : List Nat} {w0 : World}
theorem anyB_one_want {fuel i : Nat} {listed : Array Bool} {a : Act} {w1 : World} {o : Oper} (hr : Region.ready md ops listed = [i]) (ho : ops[i]? = some o) (hg : Region.wanted o (yielded ops a.tmps) = true)
    (h : ∀ w, Below w1.heap.size w1 w → ∀ K : Act → World → Prop, (∀ a' w', (Ex X w0 w' ∧ anyB P md ops Q X w0 fuel (listed.setIfInBounds i true) a' w') → K a' w') → o.wp P a w K Q) : anyB P md ops Q X w0 (fuel + 1) listed a w1 := by
  refine ⟨fun h0 => (by rw [hr] at h0; cases h0), fun j hj w hw => ?_⟩
  rw [hr] at hj
  obtain rfl : j = i := by simpa using hj
  unfold wpOp
  simp only [ho, hg, if_true]
  exact .inl (h w hw _ (fun _ _ hh => hh))
end
/-- A lock of a switch that leads from a yard to another one. -/
def lkB (y z : Yd) (x : Sw) : Nat → Bool
  | 0 => x.k.toList == isolatorL && !sameI (enL y) (enL z)
  | 1 => shortB z
  | 2 => x.k.toList == earthL && !x.c && !sepB z x.a
  | _ => openB z
theorem lock2_any (B : Nat) (A0 A1 A2 : Option Addr) (n0 n1 n2 c0 c1 c2 : Nat) (y : Yd) (D0 D1 D2 : Option Addr) (m0 m1 m2 d0 d1 d2 : Nat) (z : Yd) (x : Sw) (w : World) (hY : YdAt w B A0 A1 A2 n0 n1 n2 y) (hZ : YdAt w B D0 D1 D2 m0 m1 m2 z) (hB : B ≤ w.heap.size) (hP : Parts y) (hQ : Parts z) (hx : x.a ∈ rng z.s.length) : Calls Tryz.prog 195 #[.agg #[.slice A0 n0 c0, .slice A1 n1 c1, .slice A2 n2 c2], .agg #[.slice D0 m0 d0, .slice D1 m1 d1, .slice D2 m2 d2], .agg #[.string x.n, .string x.k, .int .i64 x.a, .int .i64 x.b, .bool x.c]] w fun e w' => e = .returned (.bool (lkB y z x 1)) ∧ Below w.heap.size w w' := by
  have HC := Lib.hid (fun W (hW : Below w.heap.size w W) => short_any B D0 D1 D2 m0 m1 m2 d0 d1 d2 z W (hZ.below (hW.mono hB)) (by have := hW.size; omega) hQ)
  clear hY hZ hP hQ
  go_enter Tryz.func195, Tryz.ntmps195
  go_wp2_with fail
  refine (HC.out _ bl_).mono ?_
  (rintro e w1 ⟨rfl, hb1⟩; have hs1 := hb1.size; (try simp at hs1))
  go_wp2_with fail
  go_ret
  exact ⟨rfl, bl_⟩
theorem lock4_any (B : Nat) (A0 A1 A2 : Option Addr) (n0 n1 n2 c0 c1 c2 : Nat) (y : Yd) (D0 D1 D2 : Option Addr) (m0 m1 m2 d0 d1 d2 : Nat) (z : Yd) (x : Sw) (w : World) (hY : YdAt w B A0 A1 A2 n0 n1 n2 y) (hZ : YdAt w B D0 D1 D2 m0 m1 m2 z) (hB : B ≤ w.heap.size) (hP : Parts y) (hQ : Parts z) (hx : x.a ∈ rng z.s.length) : Calls Tryz.prog 197 #[.agg #[.slice A0 n0 c0, .slice A1 n1 c1, .slice A2 n2 c2], .agg #[.slice D0 m0 d0, .slice D1 m1 d1, .slice D2 m2 d2], .agg #[.string x.n, .string x.k, .int .i64 x.a, .int .i64 x.b, .bool x.c]] w fun e w' => e = .returned (.bool (lkB y z x 3)) ∧ Below w.heap.size w w' := by
  have HC := Lib.hid (fun W (hW : Below w.heap.size w W) => open_any B D0 D1 D2 m0 m1 m2 d0 d1 d2 z W (hZ.below (hW.mono hB)) (by have := hW.size; omega) hQ)
  clear hY hZ hP hQ
  go_enter Tryz.func197, Tryz.ntmps197
  go_wp2_with fail
  refine (HC.out _ bl_).mono ?_
  (rintro e w1 ⟨rfl, hb1⟩; have hs1 := hb1.size; (try simp at hs1))
  go_wp2_with fail
  go_ret
  exact ⟨rfl, bl_⟩
theorem lock3_any (B : Nat) (A0 A1 A2 : Option Addr) (n0 n1 n2 c0 c1 c2 : Nat) (y : Yd) (D0 D1 D2 : Option Addr) (m0 m1 m2 d0 d1 d2 : Nat) (z : Yd) (x : Sw) (w : World) (hY : YdAt w B A0 A1 A2 n0 n1 n2 y) (hZ : YdAt w B D0 D1 D2 m0 m1 m2 z) (hB : B ≤ w.heap.size) (hP : Parts y) (hQ : Parts z) (hx : x.a ∈ rng z.s.length) : Calls Tryz.prog 196 #[.agg #[.slice A0 n0 c0, .slice A1 n1 c1, .slice A2 n2 c2], .agg #[.slice D0 m0 d0, .slice D1 m1 d1, .slice D2 m2 d2], .agg #[.string x.n, .string x.k, .int .i64 x.a, .int .i64 x.b, .bool x.c]] w fun e w' => e = .returned (.bool (lkB y z x 2)) ∧ Below w.heap.size w w' := by
  have HC := Lib.hid (fun W (hW : Below w.heap.size w W) => separated_any B D0 D1 D2 m0 m1 m2 d0 d1 d2 z W (hZ.below (hW.mono hB)) (by have := hW.size; omega) hQ x.a hx)
  clear hY hZ hP hQ hx
  obtain ⟨xn, xk, xa, xb, xc⟩ := x
  unfold lkB earthL
  dsimp only at HC ⊢
  generalize sepB z xa = q at *
  cases hk : (xk.toList == [101, 97, 114, 116, 104]) with
  | false =>
    go_enter Tryz.func196, Tryz.ntmps196
    go_wp2_with fail
    go_ret
    exact ⟨rfl, bl_⟩
  | true =>
    cases xc with
    | true =>
      go_enter Tryz.func196, Tryz.ntmps196
      go_wp2_with fail
      go_ret
      exact ⟨rfl, bl_⟩
    | false =>
      go_enter Tryz.func196, Tryz.ntmps196
      go_wp2_with fail
      refine (HC.out _ bl_).mono ?_
      (rintro e w1 ⟨rfl, hb1⟩; have hs1 := hb1.size; (try simp at hs1))
      go_wp2_with fail
      go_ret
      exact ⟨by first | rfl | (simp; done), bl_⟩
set_option maxRecDepth 100000 in
set_option maxHeartbeats 1000000 in
theorem lock1_any (B : Nat) (A0 A1 A2 : Option Addr) (n0 n1 n2 c0 c1 c2 : Nat) (y : Yd) (D0 D1 D2 : Option Addr) (m0 m1 m2 d0 d1 d2 : Nat) (z : Yd) (x : Sw) (w : World) (hY : YdAt w B A0 A1 A2 n0 n1 n2 y) (hZ : YdAt w B D0 D1 D2 m0 m1 m2 z) (hB : B ≤ w.heap.size) (hP : Parts y) (hQ : Parts z) (hx : x.a ∈ rng z.s.length) (n8 : n0 ≤ 9) (m8 : m0 ≤ 9) : Calls Tryz.prog 193 #[.agg #[.slice A0 n0 c0, .slice A1 n1 c1, .slice A2 n2 c2], .agg #[.slice D0 m0 d0, .slice D1 m1 d1, .slice D2 m2 d2], .agg #[.string x.n, .string x.k, .int .i64 x.a, .int .i64 x.b, .bool x.c]] w fun e w' => e = .returned (.bool (lkB y z x 0)) ∧ Below w.heap.size w w' := by
  have hl1 := (sec_at hY.hs).1
  have hl2 := (sec_at hZ.hs).1
  have HC := Lib.hid (fun W (hW : Below w.heap.size w W) => those_any 96 #[.agg #[.slice A0 n0 c0, .slice A1 n1 c1, .slice A2 n2 c2]] #[] B A0 A1 A2 n0 n1 n2 c0 c1 c2 y W (energB y) n8 (enters_of Tryz.func96 (by kernel_rfl) rfl) (fun W' hW' i hi => by simpa using energized_any B A0 A1 A2 n0 n1 n2 c0 c1 c2 y W' (hY.below ((hW.mono hB).trans (hW'.mono (by have := hW.size; omega)))) (by have := hW.size; have := hW'.size; omega) hP i (by rw [hl1]; exact hi)))
  have HD := Lib.hid (fun W (hW : Below w.heap.size w W) => those_any 96 #[.agg #[.slice D0 m0 d0, .slice D1 m1 d1, .slice D2 m2 d2]] #[] B D0 D1 D2 m0 m1 m2 d0 d1 d2 z W (energB z) m8 (enters_of Tryz.func96 (by kernel_rfl) rfl) (fun W' hW' i hi => by simpa using energized_any B D0 D1 D2 m0 m1 m2 d0 d1 d2 z W' (hZ.below ((hW.mono hB).trans (hW'.mono (by have := hW.size; omega)))) (by have := hW.size; have := hW'.size; omega) hQ i (by rw [hl2]; exact hi)))
  have e1 : those n0 (energB y) = enL y := by rw [← hl1]; rfl
  have e2 : those m0 (energB z) = enL z := by rw [← hl2]; rfl
  rw [e1] at HC
  rw [e2] at HD
  have g1 : Hid ((enL y).length ≤ 9) := by have := those_len y.s.length (energB y); unfold enL; show _ ≤ _; omega
  have g2 : Hid ((enL z).length ≤ 9) := by have := those_len z.s.length (energB z); unfold enL; show _ ≤ _; omega
  clear hY hZ hP hQ hx e1 e2 hl1 hl2
  obtain ⟨xn, xk, xa, xb, xc⟩ := x
  unfold lkB isolatorL
  dsimp only at HC HD ⊢
  generalize enL y = l1 at *
  generalize enL z = l2 at *
  cases hk : (xk.toList == [105, 115, 111, 108, 97, 116, 111, 114]) with
  | false =>
    go_enter Tryz.func193, Tryz.ntmps193
    go_wp2_with fail
    (refine wp_region_calm [] [0, 1, 2, 3, 4, 5, 6, 7, 8, 9, 10, 11, 12, 13, 14, 15] 0 (by kernel_rfl) rfl (by kernel_rfl) (by kernel_rfl) (by kernel_rfl) ?_; simp only [pickB, List.filterMap_cons, List.filterMap_nil, List.getElem?_toArray, List.getElem?_cons_zero, List.getElem?_cons_succ]; (repeat (first | ((first | (with_reducible refine quietL_plain rfl (fun K hK => ?_)) | (with_reducible refine quietL_want (by with_unfolding_all rfl) (fun K hK => ?_))); (apply Exists.intro; refine ⟨fun wx hx => ?_, ?_⟩; (· (have hcx := ifs_ex hx); simp [go_sem, *, ↓IntWalk.iteOmega] <;> (first | rfl | exact ⟨rfl, rfl⟩ | fail)); (simp only [Act.put, List.setIfInBounds_toArray, List.set_cons_zero, List.set_cons_succ]; refine hK _ ?_; clear hK K))) | ((with_reducible refine quietL_skip (by with_unfolding_all rfl) ?_); simp only [Act.put, List.setIfInBounds_toArray, List.set_cons_zero, List.set_cons_succ]))); refine quietL_nil ?_)
    (refine anyB_end (by kernel_rfl) ?_; intro w1 hb1; obtain ⟨hc1, hf1⟩ := ifs_of hb1; have hs1 := hb1.size; (try simp at hs1); simp only [Calm]; go_wp2_with fail)
    go_ret
    exact ⟨rfl, bl_⟩
  | true =>
    go_enter Tryz.func193, Tryz.ntmps193
    go_wp2_with fail
    (refine wp_region_calm [] [0, 1, 2, 3, 4, 5, 6, 8, 9, 10] 6 (by kernel_rfl) rfl (by kernel_rfl) (by kernel_rfl) (by kernel_rfl) ?_; simp only [pickB, List.filterMap_cons, List.filterMap_nil, List.getElem?_toArray, List.getElem?_cons_zero, List.getElem?_cons_succ]; (repeat (first | ((first | (with_reducible refine quietL_plain rfl (fun K hK => ?_)) | (with_reducible refine quietL_want (by with_unfolding_all rfl) (fun K hK => ?_))); (apply Exists.intro; refine ⟨fun wx hx => ?_, ?_⟩; (· (have hcx := ifs_ex hx); simp [go_sem, *, ↓IntWalk.iteOmega] <;> (first | rfl | exact ⟨rfl, rfl⟩ | fail)); (simp only [Act.put, List.setIfInBounds_toArray, List.set_cons_zero, List.set_cons_succ]; refine hK _ ?_; clear hK K))) | ((with_reducible refine quietL_skip (by with_unfolding_all rfl) ?_); simp only [Act.put, List.setIfInBounds_toArray, List.set_cons_zero, List.set_cons_succ]))); refine quietL_nil ?_)
    (refine anyB_one_want (i := 7) (by kernel_rfl) rfl (by kernel_rfl) ?_; intro wa hba K hK; obtain ⟨hca, hfa⟩ := ifs_of hba; have hsa := hba.size; (try simp at hsa); go_wp2_with fail)
    refine (HC.out _ bl_).mono ?_
    (rintro e wb ⟨Ab, capb, rfl, hrb, hbb⟩; have hsb := hbb.size; have HRb := Lib.hid hrb; clear hrb; (try simp at hsb))
    (go_wp2; refine ⟨xs_, ?_⟩)
    (refine anyB_one_want (i := 11) (by kernel_rfl) rfl (by kernel_rfl) ?_; intro wc hbc K hK; obtain ⟨hcc, hfc⟩ := ifs_of hbc; have hsc := hbc.size; (try simp at hsc); go_wp2_with fail)
    refine (HD.out _ bl_).mono ?_
    (rintro e wd ⟨Ad, capd, rfl, hrd, hbd⟩; have hsd := hbd.size; have HRd := Lib.hid hrd; clear hrd; (try simp at hsd))
    (go_wp2; refine ⟨xs_, ?_⟩)
    (refine anyB_one_want (i := 12) (by kernel_rfl) rfl (by kernel_rfl) ?_; intro we hbe K hK; obtain ⟨hce, hfe⟩ := ifs_of hbe; have hse := hbe.size; (try simp at hse); go_wp2_with fail)
    have R1 : Reads we we.heap.size 1 Ab l1.length (l1.map (.int .i64)) := (HRb.out.below (bl_ : Below wb.heap.size wb we)).more (by omega)
    have R2 : Reads we we.heap.size 1 Ad l2.length (l2.map (.int .i64)) := (HRd.out.below (bl_ : Below wd.heap.size wd we)).more (by omega)
    refine (Equal_any we.heap.size we.heap.size Ab Ad l1.length l2.length capb capd l1 l2 we R1 R2 (Nat.le_refl _) (Nat.le_refl _) (by have := g1.out; unfold maxLen; omega) (by have := g2.out; unfold maxLen; omega)).mono ?_
    clear R1 R2
    (rintro e wf ⟨rfl, hbf⟩; have hsf := hbf.size; (try simp at hsf))
    (go_wp2; refine ⟨xs_, ?_⟩)
    (refine anyB_one_want (i := 13) (by kernel_rfl) rfl (by kernel_rfl) ?_; intro wg hbg K hK; obtain ⟨hcg, hfg⟩ := ifs_of hbg; have hsg := hbg.size; (try simp at hsg); go_wp2; refine ⟨xs_, ?_⟩)
    (refine anyB_one (i := 14) (by kernel_rfl) rfl rfl ?_; intro wh hbh K hK; obtain ⟨hch, hfh⟩ := ifs_of hbh; have hsh := hbh.size; (try simp at hsh); go_wp2; refine ⟨xs_, ?_⟩)
    (refine anyB_one (i := 15) (by kernel_rfl) rfl rfl ?_; intro wi hbi K hK; obtain ⟨hci, hfi⟩ := ifs_of hbi; have hsi := hbi.size; (try simp at hsi); go_wp2; refine ⟨xs_, ?_⟩)
    (refine anyB_end (by kernel_rfl) ?_; intro wj hbj; obtain ⟨hcj, hfj⟩ := ifs_of hbj; have hsj := hbj.size; (try simp at hsj); simp only [Calm]; go_wp2_with fail)
    go_ret
    exact ⟨by first | rfl | (simp; done), bl_⟩
end Go.Proofs.YtphlojgmfkgeiaaGreatDoor
/- The first lock. -/
namespace Go.Proofs.YtphlojgmfkgeiaaGreatDoor
open Go.RowKit Go.Sort Go.Shelf
set_option linter.unusedSimpArgs false
set_option linter.unusedVariables false
attribute [local go_sem] cell_if frozen_if grow_cell
def nmL : Nat → ByteArray
  | 1 => ⟨#[108, 111, 97, 100]⟩
  | 2 => ⟨#[115, 104, 111, 114, 116]⟩
  | 3 => ⟨#[97, 112, 97, 114, 116]⟩
  | 4 => ⟨#[112, 101, 114, 109, 105, 116]⟩
  | _ => ⟨#[]⟩
def locksA : Array Value := #[.string (nmL 1), .func (.func 193) #[] #[], .string (nmL 2), .func (.func 195) #[] #[], .string (nmL 3), .func (.func 196) #[] #[], .string (nmL 4), .func (.func 197) #[] #[]]
theorem locks_any (w : World) : Calls Tryz.prog 170 #[] w fun e w' => e = .returned (.agg locksA) ∧ Below w.heap.size w w' := by
  go_enter Tryz.func170, Tryz.ntmps170
  go_wp2_with fail
  refine bodyPost_ret (v := .agg locksA) ?_ rfl ⟨rfl, bl_⟩
  simp [results, Tryz.results170, go_sem, locksA, nmL]
theorem whyN_some (y : Yd) (i : Nat) (h : i < y.w.length) (k : Nat) (h0 : ∀ j, j < k → lkB y (y.mv i) y.w[i] j = false) : (k < 4 → lkB y (y.mv i) y.w[i] k = true → whyN y i = k + 1) ∧ (k = 4 → whyN y i = 0) := by
  have e : whyN y i = if lkB y (y.mv i) y.w[i] 0 then 1 else if lkB y (y.mv i) y.w[i] 1 then 2 else if lkB y (y.mv i) y.w[i] 2 then 3 else if lkB y (y.mv i) y.w[i] 3 then 4 else 0 := by
    unfold whyN
    rw [List.getElem?_eq_getElem h]
    simp only [lkB, sameI_eq]
  rw [e]
  refine ⟨fun hk ht => ?_, fun hk => ?_⟩
  · obtain rfl | rfl | rfl | rfl : k = 0 ∨ k = 1 ∨ k = 2 ∨ k = 3 := by omega
    all_goals simp [ht, h0]
  · subst hk
    simp [h0]
theorem Parts.like {y z : Yd} (h : Parts y) (hs : z.s = y.s) (hp : z.p = y.p) (hw : z.w.map Sw.base = y.w.map Sw.base) : Parts z := by
  have hl : z.w.length = y.w.length := by simpa using congrArg List.length hw
  have key : ∀ x ∈ z.w, ∃ x' ∈ y.w, x.a = x'.a ∧ x.b = x'.b ∧ x.k = x'.k := fun x hx => by
    have : x.base ∈ y.w.map Sw.base := hw ▸ List.mem_map.2 ⟨x, hx, rfl⟩
    obtain ⟨x', hx', e⟩ := List.mem_map.1 this
    simp only [Sw.base] at e
    injection e with e1 e2 e3 e4 e5
    exact ⟨x', hx', e3.symm, e4.symm, e2.symm⟩
  refine ⟨by rw [hs]; exact h.n0, by rw [hs]; exact h.n8, by rw [hl]; exact h.w8, by rw [hp]; exact h.p8, fun x hx => ?_, fun x hx hk => ?_, by rw [hs, hp]; exact h.ps⟩
  · obtain ⟨x', hx', ea, _, _⟩ := key x hx
    rw [ea, hs]; exact h.sa x' hx'
  · obtain ⟨x', hx', _, eb, ek⟩ := key x hx
    rw [eb, hs]; rw [ek] at hk; exact h.sb x' hx' hk
theorem Parts.mv {y : Yd} (h : Parts y) (i : Nat) : Parts (y.mv i) := h.like rfl rfl (moved_base _ _)
theorem Parts.at {y : Yd} (h : Parts y) (s : Int) : Parts (y.at s) := h.like rfl rfl (withL_base _ _)
def lkF : Nat → Nat
  | 0 => 193
  | 1 => 195
  | 2 => 196
  | _ => 197
theorem locks_at (w : World) : (Instr.index 203 (.agg #[.string (nmL 1), .func (.func 193) #[] #[], .string (nmL 2), .func (.func 195) #[] #[], .string (nmL 3), .func (.func 196) #[] #[], .string (nmL 4), .func (.func 197) #[] #[]]) (.int .i64 0)).run Tryz.prog w = .ok (.agg #[.string (nmL 1), .func (.func 193) #[] #[]]) w ∧ (Instr.index 203 (.agg #[.string (nmL 1), .func (.func 193) #[] #[], .string (nmL 2), .func (.func 195) #[] #[], .string (nmL 3), .func (.func 196) #[] #[], .string (nmL 4), .func (.func 197) #[] #[]]) (.int .i64 1)).run Tryz.prog w = .ok (.agg #[.string (nmL 2), .func (.func 195) #[] #[]]) w ∧ (Instr.index 203 (.agg #[.string (nmL 1), .func (.func 193) #[] #[], .string (nmL 2), .func (.func 195) #[] #[], .string (nmL 3), .func (.func 196) #[] #[], .string (nmL 4), .func (.func 197) #[] #[]]) (.int .i64 2)).run Tryz.prog w = .ok (.agg #[.string (nmL 3), .func (.func 196) #[] #[]]) w ∧ (Instr.index 203 (.agg #[.string (nmL 1), .func (.func 193) #[] #[], .string (nmL 2), .func (.func 195) #[] #[], .string (nmL 3), .func (.func 196) #[] #[], .string (nmL 4), .func (.func 197) #[] #[]]) (.int .i64 3)).run Tryz.prog w = .ok (.agg #[.string (nmL 4), .func (.func 197) #[] #[]]) w := ⟨by kernel_rfl, by kernel_rfl, by kernel_rfl, by kernel_rfl⟩
set_option maxRecDepth 100000 in
set_option maxHeartbeats 1000000 in
theorem why_any (B : Nat) (A0 A1 A2 : Option Addr) (n0 n1 n2 c0 c1 c2 : Nat) (y : Yd) (w : World) (hY : YdAt w B A0 A1 A2 n0 n1 n2 y) (hB : B ≤ w.heap.size) (hP : Parts y) (i : Nat) (hi : i < y.w.length) : Calls Tryz.prog 131 #[.agg #[.slice A0 n0 c0, .slice A1 n1 c1, .slice A2 n2 c2], .int .i64 (i : Int)] w fun e w' => e = .returned (.string (nmL (whyN y i))) ∧ Below w.heap.size w w' := by
  have hl0 := (sec_at hY.hs).1
  have hl1 := (sw_at hY.hw).1
  have hl2 := (pm_at hY.hp).1
  have h8 := hP.n8
  have h8' := hP.w8
  have h8'' := hP.p8
  have HM := Lib.hid (fun W (hW : Below w.heap.size w W) => moved_any B A0 A1 A2 n0 n1 n2 c0 c1 c2 y i W (hY.below (hW.mono hB)) (by have := hW.size; omega) (by omega) (by omega) (by omega) hi)
  have HN := Lib.hid (whyN_some y i hi)
  have hi1 : (i : Int) < (n1 : Int) := by omega
  obtain ⟨b, o, rfl, hbb, z0, z1, z2, z3, z4⟩ := (sw_at hY.hw).2 i hi
  go_enter Tryz.func131, Tryz.ntmps131
  go_wp2_with fail
  refine (HM.out _ bl_).mono ?_
  rintro e w1 ⟨D0, D2, d0, d2, g, rfl, hO, hb1⟩
  have hs1 := hb1.size
  simp at hs1
  have hP' := hP.mv i
  have hZ := (yd_own hO)
  have hx : (y.w[i]).a ∈ rng (y.mv i).s.length := mem_rng.2 (hP.sa _ (List.getElem_mem hi))
  have hYw : ∀ W, Below w1.heap.size w1 W → YdAt W w1.heap.size A0 (some ⟨b, o, none⟩) A2 n0 n1 n2 y := fun W hW => (hY.below ((bl_ : Below B w w1).trans (hW.mono (by omega)))).more (by omega)
  have HL : Hid (∀ W, Below w1.heap.size w1 W → ∀ j, j < 4 → Calls Tryz.prog (lkF j) #[.agg #[.slice A0 n0 c0, .slice (some ⟨b, o, none⟩) n1 c1, .slice A2 n2 c2], .agg #[.slice D0 (y.mv i).s.length d0, .slice (some ⟨g, 0, none⟩) (y.mv i).w.length (y.mv i).w.length, .slice D2 (y.mv i).p.length d2], .agg #[.string y.w[i].n, .string y.w[i].k, .int .i64 y.w[i].a, .int .i64 y.w[i].b, .bool y.w[i].c]] W fun e w' => e = .returned (.bool (lkB y (y.mv i) y.w[i] j)) ∧ Below W.heap.size W w') := fun W hW j hj => by
    have a1 := hYw W hW
    have a2 := hZ.below hW
    have a3 := hW.size
    obtain rfl | rfl | rfl | rfl : j = 0 ∨ j = 1 ∨ j = 2 ∨ j = 3 := by omega
    · exact lock1_any w1.heap.size _ _ _ _ _ _ _ _ _ y _ _ _ _ _ _ _ _ _ (y.mv i) y.w[i] W a1 a2 a3 hP hP' hx (by omega) (by show y.s.length ≤ 9; omega)
    · exact lock2_any w1.heap.size _ _ _ _ _ _ _ _ _ y _ _ _ _ _ _ _ _ _ (y.mv i) y.w[i] W a1 a2 a3 hP hP' hx
    · exact lock3_any w1.heap.size _ _ _ _ _ _ _ _ _ y _ _ _ _ _ _ _ _ _ (y.mv i) y.w[i] W a1 a2 a3 hP hP' hx
    · exact lock4_any w1.heap.size _ _ _ _ _ _ _ _ _ y _ _ _ _ _ _ _ _ _ (y.mv i) y.w[i] W a1 a2 a3 hP hP' hx
  clear hP hP' hZ hx hYw hO hY
  have k0 : ∀ W, Below w.heap.size w W → ∀ q, W.cell? ⟨b, q, none⟩ = w.cell? ⟨b, q, none⟩ := fun W hW q => hW.cell (p := ⟨b, q, none⟩) (by simp; omega)
  have K0 := Lib.hid k0
  clear k0
  generalize lkB y (y.mv i) y.w[i] = q at *
  generalize y.w[i] = x at *
  obtain ⟨xn, xk, xa, xb, xc⟩ := x
  dsimp only at z0 z1 z2 z3 z4 HL
  generalize (y.mv i).s.length = m0 at *
  generalize (y.mv i).w.length = m1 at *
  generalize (y.mv i).p.length = m2 at *
  have hl1b : b < w1.heap.size := by omega
  obtain ⟨hc1, hf1⟩ := ifs_of hb1; have hs1 := hb1.size; (try simp at hs1)
  go_wp2_with fail
  refine (locks_any _).mono ?_
  (rintro e w2 ⟨rfl, hb2⟩; have hs2 := hb2.size; (try simp at hs2))
  unfold locksA
  have L0 := Lib.hid (fun W hW => HL.out W hW 0 (by omega))
  have L1 := Lib.hid (fun W hW => HL.out W hW 1 (by omega))
  have L2 := Lib.hid (fun W hW => HL.out W hW 2 (by omega))
  have L3 := Lib.hid (fun W hW => HL.out W hW 3 (by omega))
  simp only [lkF] at L0 L1 L2 L3
  clear HL
  go_wp2_with fail
  have bA : Blk w2 w.heap.size 41 #[.slice A0 n0 c0, .slice (some ⟨b, o, none⟩) n1 c1, .slice A2 n2 c2] := (show Blk _ _ _ _ from bk_)
  have bB : Blk w2 w1.heap.size 41 #[.slice D0 m0 d0, .slice (some ⟨g, 0, none⟩) m1 m1, .slice D2 m2 d2] := (show Blk _ _ _ _ from bk_)
  have BA := Lib.hid bA
  have BB := Lib.hid bB
  clear bA bB
  go_loopw [12] (fun i wr => ∃ k : Nat, k ≤ 4 ∧ i = .int .i64 k ∧ (∀ j, j < k → q j = false) ∧ Below w2.heap.size w2 wr) (fun i _ => 4 - (intOf i).toNat)
  case atStart => exact ⟨0, by omega, rfl, fun j hj => absurd hj (by omega), bl_⟩
  case round =>
    obtain ⟨k, hk, rfl, hq, hb⟩ := hrel
    have hsr := hb.size
    have kb := K0.out wr bl_
    rw [← kb] at z0 z1 z2 z3 z4
    clear kb
    have hl2b : b < wr.heap.size := by omega
    have bA := BA.out.kept hb
    have bB := BB.out.kept hb
    have cA := bA.cell
    have cB := bB.cell
    have fA := bA.frozen
    have fB := bB.frozen
    have lA := bA.lt
    have lB := bB.lt
    clear bA bB
    by_cases hlt : k < 4
    · obtain rfl | rfl | rfl | rfl : k = 0 ∨ k = 1 ∨ k = 2 ∨ k = 3 := by omega
      · have HQ := Lib.hid hq
        clear hq
        rw [show ((0 : Nat) : Int) = 0 from rfl]
        have hix := (locks_at wr).1
        cases hqq : q 0 with
        | true =>
          rw [hqq] at L0
          go_wp2_with fail
          (refine wp_region_calm [] [0, 1, 2, 3, 4, 5, 6, 7, 8, 9] 0 (by kernel_rfl) rfl (by kernel_rfl) (by kernel_rfl) (by kernel_rfl) ?_; simp only [pickB, List.filterMap_cons, List.filterMap_nil, List.getElem?_toArray, List.getElem?_cons_zero, List.getElem?_cons_succ]; (repeat (first | ((first | (with_reducible refine quietL_plain rfl (fun K hK => ?_)) | (with_reducible refine quietL_want (by with_unfolding_all rfl) (fun K hK => ?_))); (apply Exists.intro; refine ⟨fun wx hx => ?_, ?_⟩; (· (have hcx := ifs_ex hx); simp [go_sem, *, ↓IntWalk.iteOmega] <;> (first | rfl | exact ⟨rfl, rfl⟩ | (have hbx := Ex.below hx; exact calls_B (L0.out _ bl_)))); (simp only [Act.put, List.setIfInBounds_toArray, List.set_cons_zero, List.set_cons_succ]; refine hK _ ?_; clear hK K))) | ((with_reducible refine quietL_skip (by with_unfolding_all rfl) ?_); simp only [Act.put, List.setIfInBounds_toArray, List.set_cons_zero, List.set_cons_succ]))); refine quietL_nil ?_)
          (refine anyB_end (by kernel_rfl) ?_; intro w3 hb3; obtain ⟨hc3, hf3⟩ := ifs_of hb3; have hs3 := hb3.size; (try simp at hs3); simp only [Calm]; go_wp2_with fail)
          go_ret
          exact ⟨by rw [(HN.out 0 HQ.out).1 (by omega) hqq]; rfl, bl_⟩
        | false =>
          rw [hqq] at L0
          go_wp2_with fail
          (refine wp_region_calm [] [0, 1, 2, 3, 4, 5, 6, 7, 8, 9] 0 (by kernel_rfl) rfl (by kernel_rfl) (by kernel_rfl) (by kernel_rfl) ?_; simp only [pickB, List.filterMap_cons, List.filterMap_nil, List.getElem?_toArray, List.getElem?_cons_zero, List.getElem?_cons_succ]; (repeat (first | ((first | (with_reducible refine quietL_plain rfl (fun K hK => ?_)) | (with_reducible refine quietL_want (by with_unfolding_all rfl) (fun K hK => ?_))); (apply Exists.intro; refine ⟨fun wx hx => ?_, ?_⟩; (· (have hcx := ifs_ex hx); simp [go_sem, *, ↓IntWalk.iteOmega] <;> (first | rfl | exact ⟨rfl, rfl⟩ | (have hbx := Ex.below hx; exact calls_B (L0.out _ bl_)))); (simp only [Act.put, List.setIfInBounds_toArray, List.set_cons_zero, List.set_cons_succ]; refine hK _ ?_; clear hK K))) | ((with_reducible refine quietL_skip (by with_unfolding_all rfl) ?_); simp only [Act.put, List.setIfInBounds_toArray, List.set_cons_zero, List.set_cons_succ]))); refine quietL_nil ?_)
          (refine anyB_end (by kernel_rfl) ?_; intro w3 hb3; obtain ⟨hc3, hf3⟩ := ifs_of hb3; have hs3 := hb3.size; (try simp at hs3); simp only [Calm]; go_wp2_with fail)
          go_roundw
          case rel => exact ⟨1, by omega, rfl, fun j hj => (by rcases Nat.lt_or_ge j 0 with h | h; exact HQ.out j h; exact (show j = 0 by omega) ▸ hqq), bl_⟩
          case measure => simp [intOf]
      · have HQ := Lib.hid hq
        clear hq
        rw [show ((1 : Nat) : Int) = 1 from rfl]
        have hix := (locks_at wr).2.1
        cases hqq : q 1 with
        | true =>
          rw [hqq] at L1
          go_wp2_with fail
          (refine wp_region_calm [] [0, 1, 2, 3, 4, 5, 6, 7, 8, 9] 0 (by kernel_rfl) rfl (by kernel_rfl) (by kernel_rfl) (by kernel_rfl) ?_; simp only [pickB, List.filterMap_cons, List.filterMap_nil, List.getElem?_toArray, List.getElem?_cons_zero, List.getElem?_cons_succ]; (repeat (first | ((first | (with_reducible refine quietL_plain rfl (fun K hK => ?_)) | (with_reducible refine quietL_want (by with_unfolding_all rfl) (fun K hK => ?_))); (apply Exists.intro; refine ⟨fun wx hx => ?_, ?_⟩; (· (have hcx := ifs_ex hx); simp [go_sem, *, ↓IntWalk.iteOmega] <;> (first | rfl | exact ⟨rfl, rfl⟩ | (have hbx := Ex.below hx; exact calls_B (L1.out _ bl_)))); (simp only [Act.put, List.setIfInBounds_toArray, List.set_cons_zero, List.set_cons_succ]; refine hK _ ?_; clear hK K))) | ((with_reducible refine quietL_skip (by with_unfolding_all rfl) ?_); simp only [Act.put, List.setIfInBounds_toArray, List.set_cons_zero, List.set_cons_succ]))); refine quietL_nil ?_)
          (refine anyB_end (by kernel_rfl) ?_; intro w3 hb3; obtain ⟨hc3, hf3⟩ := ifs_of hb3; have hs3 := hb3.size; (try simp at hs3); simp only [Calm]; go_wp2_with fail)
          go_ret
          exact ⟨by rw [(HN.out 1 HQ.out).1 (by omega) hqq]; rfl, bl_⟩
        | false =>
          rw [hqq] at L1
          go_wp2_with fail
          (refine wp_region_calm [] [0, 1, 2, 3, 4, 5, 6, 7, 8, 9] 0 (by kernel_rfl) rfl (by kernel_rfl) (by kernel_rfl) (by kernel_rfl) ?_; simp only [pickB, List.filterMap_cons, List.filterMap_nil, List.getElem?_toArray, List.getElem?_cons_zero, List.getElem?_cons_succ]; (repeat (first | ((first | (with_reducible refine quietL_plain rfl (fun K hK => ?_)) | (with_reducible refine quietL_want (by with_unfolding_all rfl) (fun K hK => ?_))); (apply Exists.intro; refine ⟨fun wx hx => ?_, ?_⟩; (· (have hcx := ifs_ex hx); simp [go_sem, *, ↓IntWalk.iteOmega] <;> (first | rfl | exact ⟨rfl, rfl⟩ | (have hbx := Ex.below hx; exact calls_B (L1.out _ bl_)))); (simp only [Act.put, List.setIfInBounds_toArray, List.set_cons_zero, List.set_cons_succ]; refine hK _ ?_; clear hK K))) | ((with_reducible refine quietL_skip (by with_unfolding_all rfl) ?_); simp only [Act.put, List.setIfInBounds_toArray, List.set_cons_zero, List.set_cons_succ]))); refine quietL_nil ?_)
          (refine anyB_end (by kernel_rfl) ?_; intro w3 hb3; obtain ⟨hc3, hf3⟩ := ifs_of hb3; have hs3 := hb3.size; (try simp at hs3); simp only [Calm]; go_wp2_with fail)
          go_roundw
          case rel => exact ⟨2, by omega, rfl, fun j hj => (by rcases Nat.lt_or_ge j 1 with h | h; exact HQ.out j h; exact (show j = 1 by omega) ▸ hqq), bl_⟩
          case measure => simp [intOf]
      · have HQ := Lib.hid hq
        clear hq
        rw [show ((2 : Nat) : Int) = 2 from rfl]
        have hix := (locks_at wr).2.2.1
        cases hqq : q 2 with
        | true =>
          rw [hqq] at L2
          go_wp2_with fail
          (refine wp_region_calm [] [0, 1, 2, 3, 4, 5, 6, 7, 8, 9] 0 (by kernel_rfl) rfl (by kernel_rfl) (by kernel_rfl) (by kernel_rfl) ?_; simp only [pickB, List.filterMap_cons, List.filterMap_nil, List.getElem?_toArray, List.getElem?_cons_zero, List.getElem?_cons_succ]; (repeat (first | ((first | (with_reducible refine quietL_plain rfl (fun K hK => ?_)) | (with_reducible refine quietL_want (by with_unfolding_all rfl) (fun K hK => ?_))); (apply Exists.intro; refine ⟨fun wx hx => ?_, ?_⟩; (· (have hcx := ifs_ex hx); simp [go_sem, *, ↓IntWalk.iteOmega] <;> (first | rfl | exact ⟨rfl, rfl⟩ | (have hbx := Ex.below hx; exact calls_B (L2.out _ bl_)))); (simp only [Act.put, List.setIfInBounds_toArray, List.set_cons_zero, List.set_cons_succ]; refine hK _ ?_; clear hK K))) | ((with_reducible refine quietL_skip (by with_unfolding_all rfl) ?_); simp only [Act.put, List.setIfInBounds_toArray, List.set_cons_zero, List.set_cons_succ]))); refine quietL_nil ?_)
          (refine anyB_end (by kernel_rfl) ?_; intro w3 hb3; obtain ⟨hc3, hf3⟩ := ifs_of hb3; have hs3 := hb3.size; (try simp at hs3); simp only [Calm]; go_wp2_with fail)
          go_ret
          exact ⟨by rw [(HN.out 2 HQ.out).1 (by omega) hqq]; rfl, bl_⟩
        | false =>
          rw [hqq] at L2
          go_wp2_with fail
          (refine wp_region_calm [] [0, 1, 2, 3, 4, 5, 6, 7, 8, 9] 0 (by kernel_rfl) rfl (by kernel_rfl) (by kernel_rfl) (by kernel_rfl) ?_; simp only [pickB, List.filterMap_cons, List.filterMap_nil, List.getElem?_toArray, List.getElem?_cons_zero, List.getElem?_cons_succ]; (repeat (first | ((first | (with_reducible refine quietL_plain rfl (fun K hK => ?_)) | (with_reducible refine quietL_want (by with_unfolding_all rfl) (fun K hK => ?_))); (apply Exists.intro; refine ⟨fun wx hx => ?_, ?_⟩; (· (have hcx := ifs_ex hx); simp [go_sem, *, ↓IntWalk.iteOmega] <;> (first | rfl | exact ⟨rfl, rfl⟩ | (have hbx := Ex.below hx; exact calls_B (L2.out _ bl_)))); (simp only [Act.put, List.setIfInBounds_toArray, List.set_cons_zero, List.set_cons_succ]; refine hK _ ?_; clear hK K))) | ((with_reducible refine quietL_skip (by with_unfolding_all rfl) ?_); simp only [Act.put, List.setIfInBounds_toArray, List.set_cons_zero, List.set_cons_succ]))); refine quietL_nil ?_)
          (refine anyB_end (by kernel_rfl) ?_; intro w3 hb3; obtain ⟨hc3, hf3⟩ := ifs_of hb3; have hs3 := hb3.size; (try simp at hs3); simp only [Calm]; go_wp2_with fail)
          go_roundw
          case rel => exact ⟨3, by omega, rfl, fun j hj => (by rcases Nat.lt_or_ge j 2 with h | h; exact HQ.out j h; exact (show j = 2 by omega) ▸ hqq), bl_⟩
          case measure => simp [intOf]
      · have HQ := Lib.hid hq
        clear hq
        rw [show ((3 : Nat) : Int) = 3 from rfl]
        have hix := (locks_at wr).2.2.2
        cases hqq : q 3 with
        | true =>
          rw [hqq] at L3
          go_wp2_with fail
          (refine wp_region_calm [] [0, 1, 2, 3, 4, 5, 6, 7, 8, 9] 0 (by kernel_rfl) rfl (by kernel_rfl) (by kernel_rfl) (by kernel_rfl) ?_; simp only [pickB, List.filterMap_cons, List.filterMap_nil, List.getElem?_toArray, List.getElem?_cons_zero, List.getElem?_cons_succ]; (repeat (first | ((first | (with_reducible refine quietL_plain rfl (fun K hK => ?_)) | (with_reducible refine quietL_want (by with_unfolding_all rfl) (fun K hK => ?_))); (apply Exists.intro; refine ⟨fun wx hx => ?_, ?_⟩; (· (have hcx := ifs_ex hx); simp [go_sem, *, ↓IntWalk.iteOmega] <;> (first | rfl | exact ⟨rfl, rfl⟩ | (have hbx := Ex.below hx; exact calls_B (L3.out _ bl_)))); (simp only [Act.put, List.setIfInBounds_toArray, List.set_cons_zero, List.set_cons_succ]; refine hK _ ?_; clear hK K))) | ((with_reducible refine quietL_skip (by with_unfolding_all rfl) ?_); simp only [Act.put, List.setIfInBounds_toArray, List.set_cons_zero, List.set_cons_succ]))); refine quietL_nil ?_)
          (refine anyB_end (by kernel_rfl) ?_; intro w3 hb3; obtain ⟨hc3, hf3⟩ := ifs_of hb3; have hs3 := hb3.size; (try simp at hs3); simp only [Calm]; go_wp2_with fail)
          go_ret
          exact ⟨by rw [(HN.out 3 HQ.out).1 (by omega) hqq]; rfl, bl_⟩
        | false =>
          rw [hqq] at L3
          go_wp2_with fail
          (refine wp_region_calm [] [0, 1, 2, 3, 4, 5, 6, 7, 8, 9] 0 (by kernel_rfl) rfl (by kernel_rfl) (by kernel_rfl) (by kernel_rfl) ?_; simp only [pickB, List.filterMap_cons, List.filterMap_nil, List.getElem?_toArray, List.getElem?_cons_zero, List.getElem?_cons_succ]; (repeat (first | ((first | (with_reducible refine quietL_plain rfl (fun K hK => ?_)) | (with_reducible refine quietL_want (by with_unfolding_all rfl) (fun K hK => ?_))); (apply Exists.intro; refine ⟨fun wx hx => ?_, ?_⟩; (· (have hcx := ifs_ex hx); simp [go_sem, *, ↓IntWalk.iteOmega] <;> (first | rfl | exact ⟨rfl, rfl⟩ | (have hbx := Ex.below hx; exact calls_B (L3.out _ bl_)))); (simp only [Act.put, List.setIfInBounds_toArray, List.set_cons_zero, List.set_cons_succ]; refine hK _ ?_; clear hK K))) | ((with_reducible refine quietL_skip (by with_unfolding_all rfl) ?_); simp only [Act.put, List.setIfInBounds_toArray, List.set_cons_zero, List.set_cons_succ]))); refine quietL_nil ?_)
          (refine anyB_end (by kernel_rfl) ?_; intro w3 hb3; obtain ⟨hc3, hf3⟩ := ifs_of hb3; have hs3 := hb3.size; (try simp at hs3); simp only [Calm]; go_wp2_with fail)
          go_roundw
          case rel => exact ⟨4, by omega, rfl, fun j hj => (by rcases Nat.lt_or_ge j 3 with h | h; exact HQ.out j h; exact (show j = 3 by omega) ▸ hqq), bl_⟩
          case measure => simp [intOf]
    · obtain rfl : k = 4 := by omega
      have HQ := Lib.hid hq
      clear hq
      go_wp2_with fail
      go_ret
      exact ⟨by rw [(HN.out 4 HQ.out).2 rfl]; rfl, bl_⟩
end Go.Proofs.YtphlojgmfkgeiaaGreatDoor
/- The switch with a name; the answer why; a move. -/
namespace Go.Proofs.YtphlojgmfkgeiaaGreatDoor
open Go.RowKit Go.Sort Go.Shelf
set_option linter.unusedSimpArgs false
set_option linter.unusedVariables false
attribute [local go_sem] cell_if frozen_if grow_cell
theorem atc_any (x : Sw) (nm : ByteArray) (g : Nat) (w : World) (hb : Blk w g 9 #[.string nm]) :
    Calls Tryz.prog 192 #[.agg #[.string x.n, .string x.k, .int .i64 x.a, .int .i64 x.b, .bool x.c], .pointer (some ⟨g, 0, none⟩)] w fun e w' => e = .returned (.bool (x.n.toList == nm.toList)) ∧ Below w.heap.size w w' := by
  have hc := hb.cell
  have hf := hb.frozen
  have hl := hb.lt
  go_enter Tryz.func192, Tryz.ntmps192
  go_wp2_with fail
  go_ret
  exact ⟨rfl, bl_⟩
def atB (y : Yd) (nm : ByteArray) : Int := idxP (fun x : Sw => x.n.toList == nm.toList) 0 y.w
theorem idxP_bd {α : Type} (p : α → Bool) : ∀ (l : List α) (k : Nat), -1 ≤ idxP p k l ∧ (0 ≤ idxP p k l → (k : Int) ≤ idxP p k l) ∧ idxP p k l < k + l.length ∨ (l = [] ∧ idxP p k l = -1)
  | [], _ => .inr ⟨rfl, rfl⟩
  | x :: r, k => by
    left
    rw [idxP_cons, List.length_cons]
    split
    · omega
    · rcases idxP_bd p r (k + 1) with h | ⟨h, e⟩
      · omega
      · rw [e]; omega
theorem atB_bd (y : Yd) (nm : ByteArray) : -1 ≤ atB y nm ∧ (0 ≤ atB y nm → atB y nm < y.w.length) := by
  rcases idxP_bd (fun x : Sw => x.n.toList == nm.toList) y.w 0 with h | ⟨h, e⟩
  · unfold atB; omega
  · unfold atB; omega
theorem at_any (B : Nat) (A0 A1 A2 : Option Addr) (n0 n1 n2 c0 c1 c2 : Nat) (y : Yd) (nm : ByteArray) (w : World) (hY : YdAt w B A0 A1 A2 n0 n1 n2 y) (hB : B ≤ w.heap.size) (h9 : n1 ≤ 1000) :
    Calls Tryz.prog 169 #[.agg #[.slice A0 n0 c0, .slice A1 n1 c1, .slice A2 n2 c2], .string nm] w fun e w' => e = .returned (.int .i64 (atB y nm)) ∧ Below w.heap.size w w' := by
  have HH := Lib.hid (fun W (hW : Below w.heap.size w W) (h2 : w.heap.size + 1 < W.heap.size) (hb : Blk W (w.heap.size + 1) 9 #[.string nm]) => IndexFuncSw_any 192 #[.pointer (some ⟨w.heap.size + 1, 0, none⟩)] B A1 n1 c1 y.w (fun x => x.n.toList == nm.toList) W (hY.hw.below (hW.mono hB)) (by have := hW.size; omega) h9 (enters_of Tryz.func192 (by kernel_rfl) rfl) (fun W' hW' x _ => by simpa using atc_any x nm (w.heap.size + 1) W' (hb.kept hW')))
  unfold atB
  generalize idxP (fun x : Sw => x.n.toList == nm.toList) 0 y.w = v at *
  clear hY
  go_enter Tryz.func169, Tryz.ntmps169
  go_wp2_with fail
  refine (HH.out _ bl_ (by simp) bk_).mono ?_
  (rintro e w1 ⟨rfl, hb1⟩; have hs1 := hb1.size; (try simp at hs1))
  go_wp2_with fail
  go_ret
  exact ⟨rfl, bl_⟩
def findE (y : Yd) (nm : ByteArray) : Int := or0 (yardE y) (whenE (decide (atB y nm < 0)) 10)
def foundI (y : Yd) (nm : ByteArray) : Int := if yardE y = 0 then atB y nm else 0
theorem or0_pos {a b : Int} (h : a = 0) : or0 a b = b := by unfold or0; rw [if_pos h]
theorem or0_neg {a b : Int} (h : a ≠ 0) : or0 a b = a := by unfold or0; rw [if_neg h]
theorem find_any (B : Nat) (A0 A1 A2 : Option Addr) (n0 n1 n2 c0 c1 c2 : Nat) (y : Yd) (w : World) (hY : YdAt w B A0 A1 A2 n0 n1 n2 y) (hB : B ≤ w.heap.size) (hT : Tabs w) (hF : Fits y) (nm : ByteArray) :
    Calls Tryz.prog 130 #[.agg #[.slice A0 n0 c0, .slice A1 n1 c1, .slice A2 n2 c2], .string nm] w fun e w' => e = .returned (.tuple #[.int .i64 (foundI y nm), .int .i64 (findE y nm)]) ∧ Below w.heap.size w w' := by
  have HC := Lib.hid (fun W (hW : Below w.heap.size w W) => CheckYard_any B A0 A1 A2 n0 n1 n2 c0 c1 c2 y W (hY.below (hW.mono hB)) (by have := hW.size; omega) (hT.kept hW) hF)
  have hl1 := (sw_at hY.hw).1
  have HA := Lib.hid (fun W (hW : Below w.heap.size w W) => at_any B A0 A1 A2 n0 n1 n2 c0 c1 c2 y nm W (hY.below (hW.mono hB)) (by have := hW.size; omega) (by have := hF.w9; omega))
  clear hY hT hF
  unfold findE foundI
  cases he : (yardE y != 0) with
  | true =>
    have HE := Lib.hid (show yardE y ≠ 0 by simpa using he)
    rw [if_neg HE.out, or0_neg HE.out]
    generalize yardE y = ee at *
    go_enter Tryz.func130, Tryz.ntmps130
    go_wp2_with fail
    refine (HC.out _ bl_).mono ?_
    (rintro e w1 ⟨rfl, hb1⟩; have hs1 := hb1.size; (try simp at hs1))
    go_wp2_with fail
    go_ret2
    exact ⟨rfl, bl_⟩
  | false =>
    have HE := Lib.hid (show yardE y = 0 by simpa using he)
    rw [if_pos HE.out, or0_pos HE.out]
    rw [HE.out] at HC
    clear he HE
    have HW := Lib.hid (fun W => pwhen_any (decide (atB y nm < 0)) 10 W)
    generalize whenE (decide (atB y nm < 0)) 10 = v at *
    generalize atB y nm = i at *
    go_enter Tryz.func130, Tryz.ntmps130
    go_wp2_with fail
    refine (HC.out _ bl_).mono ?_
    (rintro e w1 ⟨rfl, hb1⟩; have hs1 := hb1.size; (try simp at hs1))
    obtain ⟨hc1, hf1⟩ := ifs_of hb1; have hs1 := hb1.size; (try simp at hs1)
    go_wp2_with fail
    refine (HA.out _ bl_).mono ?_
    (rintro e w2 ⟨rfl, hb2⟩; have hs2 := hb2.size; (try simp at hs2))
    go_wp2_with fail
    refine (HW.out _).mono ?_
    rintro e w3 ⟨rfl, rfl⟩
    go_wp2_with fail
    go_ret2
    exact ⟨rfl, bl_⟩
theorem findE_zero {y : Yd} {nm : ByteArray} (h : findE y nm = 0) : yardE y = 0 ∧ foundI y nm = atB y nm ∧ 0 ≤ atB y nm ∧ (atB y nm).toNat < y.w.length := by
  obtain ⟨h1, h2⟩ := or0_zero h
  have h3 := whenE_zero (by decide) h2
  have h4 := atB_bd y nm
  have h5 : 0 ≤ atB y nm := by simpa using h3
  exact ⟨h1, by rw [foundI, if_pos h1], h5, by omega⟩
def whyW (y : Yd) (nm : ByteArray) : ByteArray := if findE y nm = 0 then nmL (whyN y (atB y nm).toNat) else ⟨#[]⟩
theorem Why_any (B : Nat) (A0 A1 A2 : Option Addr) (n0 n1 n2 c0 c1 c2 : Nat) (y : Yd) (w : World) (hY : YdAt w B A0 A1 A2 n0 n1 n2 y) (hB : B ≤ w.heap.size) (hT : Tabs w) (hF : Fits y) (nm : ByteArray) :
    Calls Tryz.prog 57 #[.agg #[.slice A0 n0 c0, .slice A1 n1 c1, .slice A2 n2 c2], .string nm] w fun e w' => e = .returned (.tuple #[.string (whyW y nm), .int .i64 (findE y nm)]) ∧ Below w.heap.size w w' := by
  have HC := Lib.hid (fun W (hW : Below w.heap.size w W) => find_any B A0 A1 A2 n0 n1 n2 c0 c1 c2 y W (hY.below (hW.mono hB)) (by have := hW.size; omega) (hT.kept hW) hF nm)
  unfold whyW
  cases he : (findE y nm != 0) with
  | true =>
    have HE := Lib.hid (show findE y nm ≠ 0 by simpa using he)
    rw [if_neg HE.out]
    clear hY hT hF
    generalize findE y nm = ee at *
    generalize foundI y nm = ii at *
    go_enter Tryz.func57, Tryz.ntmps57
    go_wp2_with fail
    refine (HC.out _ bl_).mono ?_
    (rintro e w1 ⟨rfl, hb1⟩; have hs1 := hb1.size; (try simp at hs1))
    go_wp2_with fail
    go_ret2
    exact ⟨rfl, bl_⟩
  | false =>
    have HE := Lib.hid (show findE y nm = 0 by simpa using he)
    obtain ⟨g1, g2, g3, g4⟩ := findE_zero HE.out
    rw [if_pos HE.out, HE.out]
    obtain ⟨i, hi⟩ := Int.eq_ofNat_of_zero_le g3
    have hi2 : (atB y nm).toNat = i := by omega
    rw [HE.out, g2, hi] at HC
    rw [hi2] at g4 ⊢
    have HA := Lib.hid (fun W (hW : Below w.heap.size w W) => why_any B A0 A1 A2 n0 n1 n2 c0 c1 c2 y W (hY.below (hW.mono hB)) (by have := hW.size; omega) (yard_ok g1).1 i g4)
    clear hY hT hF g2 g3 g4 hi hi2 HE g1
    generalize nmL (whyN y i) = v at *
    go_enter Tryz.func57, Tryz.ntmps57
    go_wp2_with fail
    refine (HC.out _ bl_).mono ?_
    (rintro e w1 ⟨rfl, hb1⟩; have hs1 := hb1.size; (try simp at hs1))
    obtain ⟨hc1, hf1⟩ := ifs_of hb1; have hs1 := hb1.size; (try simp at hs1)
    go_wp2_with fail
    refine (HA.out _ bl_).mono ?_
    (rintro e w2 ⟨rfl, hb2⟩; have hs2 := hb2.size; (try simp at hs2))
    go_wp2_with fail
    go_ret2
    exact ⟨rfl, bl_⟩
def zeroY : Value := .agg #[.slice none 0 0, .slice none 0 0, .slice none 0 0]
/-- A yard with lists of its own and no error, or the zero yard and an error. -/
def YdERes (w : World) (er : Int) (y : Yd) (e : Ending) (w' : World) : Prop :=
  (er = 0 ∧ ∃ A0 A2 c0 c2 g, e = .returned (.tuple #[.agg #[.slice A0 y.s.length c0, .slice (some ⟨g, 0, none⟩) y.w.length y.w.length, .slice A2 y.p.length c2], .int .i64 0]) ∧ OwnYd w.heap.size y (.slice A0 y.s.length c0) (.slice A2 y.p.length c2) g w' ∧ Below w.heap.size w w') ∨
  (er ≠ 0 ∧ e = .returned (.tuple #[zeroY, .int .i64 er]) ∧ Below w.heap.size w w')
def moveE (y : Yd) (nm : ByteArray) : Int := or0 (findE y nm) (whenE (!(whyN y (atB y nm).toNat == 0)) 21)
theorem whyN_le (y : Yd) (i : Nat) : whyN y i ≤ 4 := by
  unfold whyN
  cases y.w[i]? with
  | none => exact Nat.zero_le 4
  | some x =>
    dsimp only
    repeat (first | (split; omega) | omega)
theorem nmL_nil {n : Nat} (h : n ≤ 4) : ((nmL n).toList == []) = (n == 0) := by
  obtain rfl | rfl | rfl | rfl | rfl : n = 0 ∨ n = 1 ∨ n = 2 ∨ n = 3 ∨ n = 4 := by omega
  all_goals decide +kernel
set_option maxRecDepth 100000 in
set_option maxHeartbeats 1000000 in
theorem Move_any (B : Nat) (A0 A1 A2 : Option Addr) (n0 n1 n2 c0 c1 c2 : Nat) (y : Yd) (w : World) (hY : YdAt w B A0 A1 A2 n0 n1 n2 y) (hB : B ≤ w.heap.size) (hT : Tabs w) (hF : Fits y) (nm : ByteArray) :
    Calls Tryz.prog 58 #[.agg #[.slice A0 n0 c0, .slice A1 n1 c1, .slice A2 n2 c2], .string nm] w (YdERes w (moveE y nm) (y.mv (atB y nm).toNat)) := by
  have HC := Lib.hid (fun W (hW : Below w.heap.size w W) => find_any B A0 A1 A2 n0 n1 n2 c0 c1 c2 y W (hY.below (hW.mono hB)) (by have := hW.size; omega) (hT.kept hW) hF nm)
  cases he : (findE y nm != 0) with
  | true =>
    have HE := Lib.hid (show findE y nm ≠ 0 by simpa using he)
    have HM : Hid (moveE y nm = findE y nm) := by show _ = _; unfold moveE; rw [or0_neg HE.out]
    rw [HM.out]
    clear hY hT hF HM
    generalize findE y nm = ee at *
    generalize foundI y nm = ii at *
    go_enter Tryz.func58, Tryz.ntmps58
    go_wp2_with fail
    refine (HC.out _ bl_).mono ?_
    (rintro e w1 ⟨rfl, hb1⟩; have hs1 := hb1.size; (try simp at hs1))
    obtain ⟨hc1, hf1⟩ := ifs_of hb1; have hs1 := hb1.size; (try simp at hs1)
    go_wp2_with fail
    refine bodyPost_ret (v := .tuple #[zeroY, .int .i64 ee]) ?_ rfl (Or.inr ⟨HE.out, rfl, bl_⟩)
    have ck := (bk_ : Blk w1 (w.heap.size + 1) 41 #[.slice none 0 0, .slice none 0 0, .slice none 0 0])
    have ck := (((ck.set_ 0 (.slice none 0 0)).set_ 1 (.slice none 0 0)).set_ 2 (.slice none 0 0)).cell
    simp [results, Tryz.results58, go_sem, zeroY, ck]
  | false =>
    have HE := Lib.hid (show findE y nm = 0 by simpa using he)
    obtain ⟨g1, g2, g3, g4⟩ := findE_zero HE.out
    obtain ⟨i, hi⟩ := Int.eq_ofNat_of_zero_le g3
    have hi2 : (atB y nm).toNat = i := by omega
    rw [HE.out, g2, hi] at HC
    have HM : Hid (moveE y nm = whenE (!(whyN y i == 0)) 21) := by show _ = _; unfold moveE; rw [or0_pos HE.out, hi2]
    rw [HM.out]
    rw [hi2] at g4 ⊢
    have HA := Lib.hid (fun W (hW : Below w.heap.size w W) => why_any B A0 A1 A2 n0 n1 n2 c0 c1 c2 y W (hY.below (hW.mono hB)) (by have := hW.size; omega) (yard_ok g1).1 i g4)
    have hl0 := (sec_at hY.hs).1
    have hl1 := (sw_at hY.hw).1
    have hl2 := (pm_at hY.hp).1
    have HV := Lib.hid (fun W (hW : Below w.heap.size w W) => moved_any B A0 A1 A2 n0 n1 n2 c0 c1 c2 y i W (hY.below (hW.mono hB)) (by have := hW.size; omega) (by have := hF.s9; omega) (by have := hF.w9; omega) (by have := hF.p9; omega) g4)
    have hle := whyN_le y i
    have HN := Lib.hid (nmL_nil hle)
    clear hY hT hF g2 g3 g4 hi hi2 HE g1 HM he hl0 hl1 hl2 hle
    cases hz : (whyN y i == 0) with
    | false =>
      rw [hz] at HN
      have hnn := HN.out
      generalize nmL (whyN y i) = v at *
      go_enter Tryz.func58, Tryz.ntmps58
      go_wp2_with fail
      refine (HC.out _ bl_).mono ?_
      (rintro e w1 ⟨rfl, hb1⟩; have hs1 := hb1.size; (try simp at hs1))
      obtain ⟨hc1, hf1⟩ := ifs_of hb1; have hs1 := hb1.size; (try simp at hs1)
      go_wp2_with fail
      refine (HA.out _ bl_).mono ?_
      (rintro e w2 ⟨rfl, hb2⟩; have hs2 := hb2.size; (try simp at hs2))
      obtain ⟨hc2, hf2⟩ := ifs_of hb2; have hs2 := hb2.size; (try simp at hs2)
      go_wp2_with fail
      refine bodyPost_ret (v := .tuple #[zeroY, .int .i64 21]) ?_ rfl (Or.inr ⟨by decide, rfl, bl_⟩)
      have ck := (bk_ : Blk w2 (w.heap.size + 1) 41 #[.slice none 0 0, .slice none 0 0, .slice none 0 0])
      have ck := (((ck.set_ 0 (.slice none 0 0)).set_ 1 (.slice none 0 0)).set_ 2 (.slice none 0 0)).cell
      simp [results, Tryz.results58, go_sem, zeroY, ck]
    | true =>
      rw [hz] at HN
      have hnn := HN.out
      generalize nmL (whyN y i) = v at *
      go_enter Tryz.func58, Tryz.ntmps58
      go_wp2_with fail
      refine (HC.out _ bl_).mono ?_
      (rintro e w1 ⟨rfl, hb1⟩; have hs1 := hb1.size; (try simp at hs1))
      obtain ⟨hc1, hf1⟩ := ifs_of hb1; have hs1 := hb1.size; (try simp at hs1)
      go_wp2_with fail
      refine (HA.out _ bl_).mono ?_
      (rintro e w2 ⟨rfl, hb2⟩; have hs2 := hb2.size; (try simp at hs2))
      obtain ⟨hc2, hf2⟩ := ifs_of hb2; have hs2 := hb2.size; (try simp at hs2)
      go_wp2_with fail
      refine (HV.out _ bl_).mono ?_
      rintro e w3 ⟨D0, D2, d0, d2, g, rfl, hO, hb3⟩
      have bz := (bk_ : Blk w3 (w.heap.size + 1) 41 #[.slice none 0 0, .slice none 0 0, .slice none 0 0])
      have hb := (bl_ : Below w.heap.size w w3)
      have hO6 := (((hO.base (by omega)).far (i := 0) bz (.slice D0 (y.mv i).s.length d0) (by decide) (by decide) (by decide)).far (i := 1) (bz.set_ 0 _) (.slice (some ⟨g, 0, none⟩) (y.mv i).w.length (y.mv i).w.length) (by decide) (by decide) (by decide)).far (i := 2) ((bz.set_ 0 _).set_ 1 _) (.slice D2 (y.mv i).p.length d2) (by decide) (by decide) (by decide)
      have hbl6 := ((hb.setCell (p := ⟨w.heap.size + 1, 0, none⟩) (by simp) (.slice D0 (y.mv i).s.length d0)).setCell (p := ⟨w.heap.size + 1, 1, none⟩) (by simp) (.slice (some ⟨g, 0, none⟩) (y.mv i).w.length (y.mv i).w.length)).setCell (p := ⟨w.heap.size + 1, 2, none⟩) (by simp) (.slice D2 (y.mv i).p.length d2)
      have ck := (((bz.set_ 0 (.slice D0 (y.mv i).s.length d0)).set_ 1 (.slice (some ⟨g, 0, none⟩) (y.mv i).w.length (y.mv i).w.length)).set_ 2 (.slice D2 (y.mv i).p.length d2)).cell
      have HO6 := Lib.hid (And.intro hO6 hbl6)
      have cz := bz.cell
      have fz := bz.frozen
      have lz := bz.lt
      clear hO6 hbl6 hO hb bz
      go_wp2_with fail
      refine bodyPost_ret (v := .tuple #[.agg #[.slice D0 (y.mv i).s.length d0, .slice (some ⟨g, 0, none⟩) (y.mv i).w.length (y.mv i).w.length, .slice D2 (y.mv i).p.length d2], .int .i64 0]) ?_ rfl (Or.inl ⟨rfl, D0, D2, d0, d2, g, rfl, HO6.out.1.base (by omega), HO6.out.2⟩)
      simp [results, Tryz.results58, go_sem, ck]
end Go.Proofs.YtphlojgmfkgeiaaGreatDoor
