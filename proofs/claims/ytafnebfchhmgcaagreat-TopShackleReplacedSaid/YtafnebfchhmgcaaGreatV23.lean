/- The law TopShackleReplaced. -/
import Derived.Test.YtafnebfchhmgcaaGreatV22
import Derived.Test.YtafnebfchhmgcaaGreatR5
import Derived.Test.YtafnebfchhmgcaaGreatQe
import Derived.Test.YtafnebfchhmgcaaGreatQn
import Derived.Deep.DeepCutAuto
import Derived.Deep.CutBlock
namespace Go.Proofs.YtafnebfchhmgcaaGreat
open Go Go.RowKit Go.Sort Go.Shelf
set_option linter.unusedSimpArgs false
set_option linter.unusedVariables false
attribute [local go_sem] cell_if frozen_if grow_cell
theorem elemVm : Elem Tryz.prog 87 90 4 40 := elem_of Tryz.underlying87 (z := .agg #[.string ⟨#[]⟩, .int .i64 0, .int .i64 0, .int .i64 0]) (by kernel_rfl) rfl (by decide)
theorem elemOut : Elem Tryz.prog 106 109 3 24 := elem_of Tryz.underlying106 (z := .agg #[.int .i64 0, .int .i64 0, .int .i64 0]) (by kernel_rfl) rfl (by decide)
theorem row_put5 {W : World} {base e size n b t : Nat} {v v0 v1 v2 v3 v4 x0 x1 x2 x3 x4 : Value} {xs : List Value} (h : W.ownsRow base e size v n xs) (hk : Blk W b t #[x0, x1, x2, x3, x4]) (ht : e ≠ t) :
    (((((W.setCell ⟨b, 0, none⟩ v0).setCell ⟨b, 1, none⟩ v1).setCell ⟨b, 2, none⟩ v2).setCell ⟨b, 3, none⟩ v3).setCell ⟨b, 4, none⟩ v4).ownsRow base e size v n xs :=
  row_set (row_set (row_set (row_set (row_set h hk ht) (hk.set_ 0 v0) ht) ((hk.set_ 0 v0).set_ 1 v1) ht) (((hk.set_ 0 v0).set_ 1 v1).set_ 2 v2) ht) ((((hk.set_ 0 v0).set_ 1 v1).set_ 2 v2).set_ 3 v3) ht
theorem tr_two {u v : Nat} (hu : u < 2 ^ 12) (hv : v < 2 ^ 12) : TrOk [⟨0, (u : Int)⟩, ⟨1, (v : Int)⟩] := by
  refine ⟨fun x hx => ?_, fun x hx => ?_, fun i h => ?_, by simp⟩
  · rcases List.mem_cons.1 hx with rfl | hx
    · exact ⟨show (0 : Int) ≤ 0 by decide, show (0 : Int) ≤ 100000 by decide⟩
    · obtain rfl := List.mem_singleton.1 hx
      exact ⟨show (0 : Int) ≤ 1 by decide, show (1 : Int) ≤ 100000 by decide⟩
  · rcases List.mem_cons.1 hx with rfl | hx
    · exact ⟨show (0 : Int) ≤ (u : Int) by omega, show (u : Int) ≤ 4095 by omega⟩
    · obtain rfl := List.mem_singleton.1 hx
      exact ⟨show (0 : Int) ≤ (v : Int) by omega, show (v : Int) ≤ 4095 by omega⟩
  · obtain rfl : i = 0 := by simp at h; omega
    exact show (0 : Int) < 1 by decide
/-- What lies there ahead of a module. -/
structure LpI (w : World) (gx : Nat) (a : Ar) (A : Option Addr) (n c : Nat) (fs : List Nat) (x : Ar) (mask k : Nat) (Ax : Option Addr) (cx : Nat) (v : Value) (W : World) : Prop where
  bA : Blk W w.heap.size 26 #[.slice A n c, .int .i64 a.lo, .int .i64 a.hi, .int .i64 a.cur, .int .i64 a.lim]
  bX : Blk W gx 36 #[.slice Ax n cx, .int .i64 a.lo, .int .i64 a.hi, .int .i64 a.cur, .int .i64 a.lim]
  rX : W.ownsRow w.heap.size 115 4 (.slice Ax n cx) n (mds x.m)
  cX : n ≤ cx
  row : W.ownsRow w.heap.size 90 4 v fs.length (vms (vmF a fs))
  fok : FsOk a fs k
  by_ : ByA a x fs.contains
  msk : MkI x k mask
  low : Below w.heap.size w W
theorem LpI.kept {w : World} {gx : Nat} {a : Ar} {A : Option Addr} {n c : Nat} {fs : List Nat} {x : Ar} {mask k : Nat} {Ax : Option Addr} {cx : Nat} {v : Value} {W W' : World} (h : LpI w gx a A n c fs x mask k Ax cx v W) (hb : Below W.heap.size W W') : LpI w gx a A n c fs x mask k Ax cx v W' :=
  ⟨h.bA.kept hb, h.bX.kept hb, own_kept h.rX hb, h.cX, own_kept h.row hb, h.fok, h.by_, h.msk, h.low.trans (hb.mono h.low.size)⟩
theorem ots_one (l : List Ot) : ∀ v ∈ ots l, v.oneCell' = true := one_flat (fun x v hv => by simp [Ot.cells] at hv; rcases hv with rfl | rfl | rfl <;> rfl) l
theorem vm_cells {a : Ar} {fs : List Nat} {j : Nat} (h : j < (vmF a fs).length) (hj : j < fs.length) (hm : fs[j] < a.m.length) : (vmF a fs)[j] = ⟨(a.m[fs[j]]).n, 0, 100000, 1⟩ := by
  have e : (vmF a fs)[j]? = some ⟨((a.m[fs[j]]?).map Md.n).getD ⟨#[]⟩, 0, 100000, 1⟩ := by
    unfold vmF
    rw [List.getElem?_map, List.getElem?_eq_getElem hj]
    rfl
  rw [List.getElem?_eq_getElem h] at e
  rw [Option.some.inj e, List.getElem?_eq_getElem hm]
  rfl
/-- What lies there while modules are replaced. -/
structure RpI (w : World) (gx : Nat) (a : Ar) (n : Nat) (W8 : World) (x : Ar) (T : Nat → Bool) (Ax : Option Addr) (cx : Nat) (W : World) : Prop where
  bX : Blk W gx 36 #[.slice Ax n cx, .int .i64 a.lo, .int .i64 a.hi, .int .i64 a.cur, .int .i64 a.lim]
  rX : W.ownsRow w.heap.size 115 4 (.slice Ax n cx) n (mds x.m)
  cX : n ≤ cx
  by_ : ByA a x T
  ex : Ex [gx] W8 W
theorem RpI.kept {w : World} {gx : Nat} {a : Ar} {n : Nat} {W8 : World} {x : Ar} {T : Nat → Bool} {Ax : Option Addr} {cx : Nat} {W W' : World} (h : RpI w gx a n W8 x T Ax cx W) (hb : Below W.heap.size W W') : RpI w gx a n W8 x T Ax cx W' :=
  ⟨h.bX.kept hb, own_kept h.rX hb, h.cX, h.by_, h.ex.grown hb⟩
set_option maxRecDepth 1000000 in
set_option maxHeartbeats 16000000 in
theorem replaced_any (A Ao : Option Addr) (n c no co : Nat) (a : Ar) (os : List Ot) (p : Int) (w : World) (hM : MsAt w w.heap.size A n a.m) (hn : n ≤ maxLen) (hnm : ∀ x ∈ a.m, x.n.size ≤ maxLen) (hO : Reads w w.heap.size 3 Ao no (ots os)) (hno : no ≤ maxLen) (hp : 0 ≤ p ∧ p ≤ 255) :
    Calls Tryz.prog 5 #[.agg #[.slice A n c, .int .i64 a.lo, .int .i64 a.hi, .int .i64 a.cur, .int .i64 a.lim], .slice Ao no co, .int .u8 p] w fun e w' => e = .returned (.bool true) ∧ Below w.heap.size w w' := by
  have hl := (md_at hM).1
  have hlo := (ot_at hO).1
  have HAw := Lib.hid (fun W (_ : Below w.heap.size w W) => shackleArm_any W)
  have HSh := Lib.hid (fun W (hW : Below w.heap.size w W) => Short_any w.heap.size A n c a W (hM.below hW) hW.size hn)
  have HSo := Lib.hid (fun W (_ : Below w.heap.size w W) => rShortO_any Ao no co W hno)
  have hmx : maxLen = 9223372036854775807 := rfl
  rw [hmx] at hn hno
  clear hmx
  cases hs : shortA a with
  | false =>
    as_aux_lemma =>
      rw [hs] at HSh
      clear hM hnm hl hO hlo hs HSo
      have HL : Hid (Below w.heap.size w (w.alloc (.cells #[.slice A n c, .int .i64 a.lo, .int .i64 a.hi, .int .i64 a.cur, .int .i64 a.lim] 26))) := Lib.hid ((Below.refl _ _).alloc (Nat.le_refl _) _)
      have HA : Hid (Blk (w.alloc (.cells #[.slice A n c, .int .i64 a.lo, .int .i64 a.hi, .int .i64 a.cur, .int .i64 a.lim] 26)) w.heap.size 26 #[.slice A n c, .int .i64 a.lo, .int .i64 a.hi, .int .i64 a.cur, .int .i64 a.lim]) := Lib.hid (Blk.new _ _ _)
      go_enter Tryz.func5, Tryz.ntmps5
      go_wp2_with fail
      refine (HSh.out _ HL.out).mono ?_
      rintro e w1 ⟨rfl, hb⟩
      replace HL := Lib.hid (HL.out.trans (hb.mono HL.out.size))
      replace HA := Lib.hid (HA.out.kept hb)
      clear hb
      have cA := HA.out.cell
      have lA := HA.out.lt
      go_wp2_with fail
      clear cA lA
      refine (HAw.out _ HL.out).mono ?_
      rintro e w1 ⟨rfl, hb⟩
      replace HL := Lib.hid (HL.out.trans (hb.mono HL.out.size))
      clear hb
      go_wp2_with fail
      go_ret
      exact ⟨rfl, HL.out⟩
  | true =>
    rw [hs] at HSh
    have hF := short_fit hs hnm
    have HCk := Lib.hid (fun W (hW : Below w.heap.size w W) => rCheckArm_any w.heap.size A n c a W (hM.below hW) hW.size hF)
    by_cases hE : armE a = 0
    · rw [hE] at HCk
      by_cases h8 : n ≤ 8
      · have hd8 : decide ((8 : Int) < (n : Int)) = false := by simp; omega
        have hd8' : ¬ (8 : Int) < (n : Int) := by omega
        by_cases h4 : no ≤ 4
        · have hd4 : decide ((4 : Int) < (no : Int)) = false := by simp; omega
          have hd4' : ¬ (4 : Int) < (no : Int) := by omega
          have hso : (decide (no ≤ 4) || no == 7) = true := by simp [h4]
          rw [hso] at HSo
          have HCo := Lib.hid (fun W (hW : Below w.heap.size w W) => rCheckO_any w.heap.size Ao no co os W (hO.below hW) hW.size (by omega))
          by_cases hOe : outE os = 0
          · skip
            rw [hOe] at HCo
            have hOk := out_ok hOe (by rw [hlo]; omega)
            have HMs := Lib.hid (fun W (hW : Below w.heap.size w W) => shMods_r w.heap.size A n c a W (hM.below hW) hW.size (by omega))
            have HOs := Lib.hid hO
            have HMd := Lib.hid hM
            have HF := Lib.hid hF
            have HE := Lib.hid hE
            have HOk := Lib.hid hOk
            have HLn := Lib.hid hl
            have HLo := Lib.hid hlo
            clear hM hnm hl hO hlo hs hF hE hOe hso hOk
            have HL : Hid (Below w.heap.size w (w.alloc (.cells #[.slice A n c, .int .i64 a.lo, .int .i64 a.hi, .int .i64 a.cur, .int .i64 a.lim] 26))) := Lib.hid ((Below.refl _ _).alloc (Nat.le_refl _) _)
            have HA : Hid (Blk (w.alloc (.cells #[.slice A n c, .int .i64 a.lo, .int .i64 a.hi, .int .i64 a.cur, .int .i64 a.lim] 26)) w.heap.size 26 #[.slice A n c, .int .i64 a.lo, .int .i64 a.hi, .int .i64 a.cur, .int .i64 a.lim]) := Lib.hid (Blk.new _ _ _)
            go_enter Tryz.func5, Tryz.ntmps5
            go_wp2_with fail
            refine (HSh.out _ HL.out).mono ?_
            rintro e w1 ⟨rfl, hb⟩
            replace HL := Lib.hid (HL.out.trans (hb.mono HL.out.size))
            replace HA := Lib.hid (HA.out.kept hb)
            clear hb
            have cA := HA.out.cell
            have lA := HA.out.lt
            go_wp2_with fail
            clear cA lA
            refine (HCk.out _ HL.out).mono ?_
            rintro e w1 ⟨rfl, hb⟩
            replace HL := Lib.hid (HL.out.trans (hb.mono HL.out.size))
            replace HA := Lib.hid (HA.out.kept hb)
            clear hb
            have cA := HA.out.cell
            have lA := HA.out.lt
            go_wp2_with fail
            clear cA lA
            refine (HSo.out _ HL.out).mono ?_
            rintro e w1 ⟨rfl, hb⟩
            replace HL := Lib.hid (HL.out.trans (hb.mono HL.out.size))
            replace HA := Lib.hid (HA.out.kept hb)
            clear hb
            have cA := HA.out.cell
            have lA := HA.out.lt
            go_wp2_with fail
            clear cA lA
            refine (HCo.out _ HL.out).mono ?_
            rintro e w1 ⟨rfl, hb⟩
            replace HL := Lib.hid (HL.out.trans (hb.mono HL.out.size))
            replace HA := Lib.hid (HA.out.kept hb)
            clear hb
            have cA := HA.out.cell
            have lA := HA.out.lt
            go_wp2_with fail
            clear cA lA
            refine (HMs.out _ HL.out).mono ?_
            rintro e w1 ⟨Ax, cx, rfl, hrx, hcx, hb⟩
            have HL1 := Lib.hid (HL.out.trans (hb.mono HL.out.size))
            have HA1 := Lib.hid (HA.out.kept hb)
            have HX1 := Lib.hid (row_base hrx HL.out.size)
            clear hb hrx HL HA HSh HCk HSo HCo HMs
            dsimp only [id]
            have cA := HA1.out.cell
            have lA := HA1.out.lt
            go_upto_block 0 with fail
            refine wp_world ?_
            intro W0 hW0
            have HI0 : Hid (LpI w w1.heap.size a A n c [] a 0 0 Ax cx (.slice none 0 0) W0) := Lib.hid (by
              rw [hW0]
              exact ⟨HA1.out.alloc _, Blk.new _ _ _, HX1.out.alloc _, hcx, World.ownsRow_nil _ _ _ _, FsOk.nil a, (ByA.start HE.out).congr fun i _ => rfl, MkI.zero a, HL1.out.alloc HL1.out.size _⟩)
            have hgW : w.heap.size < w1.heap.size := by have := HA1.out.lt; omega
            clear hW0 HL1 HA1 HX1 hcx cA lA
            generalize w1.heap.size = gx at *
            go_cut [8, 9] (fun s8 s9 wx => ∃ (fs : List Nat) (x : Ar) (mask : Nat) (Ax : Option Addr) (cx : Nat), s9 = .int .i64 (mask : Int) ∧ LpI w gx a A n c fs x mask n Ax cx s8 wx)
            case first =>
              go_wp2_with fail
              go_loopw [8, 9, 77] (fun s8 s9 s77 wr => ∃ (k : Nat) (fs : List Nat) (x : Ar) (mask : Nat) (Ax : Option Addr) (cx : Nat), k ≤ n ∧ s77 = .int .i64 (k : Int) ∧ s9 = .int .i64 (mask : Int) ∧ LpI w gx a A n c fs x mask k Ax cx s8 wr) (fun _ _ s77 _ => n - (intOf s77).toNat)
              case atStart => exact ⟨0, [], a, 0, Ax, cx, by omega, rfl, rfl, HI0.out⟩
              case round =>
                obtain ⟨k, fs, x, mask, Ax, cx, hk, rfl, rfl, hI⟩ := hrel
                by_cases hlt : k < n
                · skip
                  as_aux_lemma =>
                    have hkl : k < a.m.length := by rw [HLn.out]; exact hlt
                    have hkI : (k : Int) < (n : Int) := by omega
                    obtain ⟨b, o, eA, hbb, z0, z1, z2, z3⟩ := (md_at (HMd.out.below hI.low)).2 k hkl
                    have hbw : b < wr.heap.size := by have := hI.low.size; omega
                    have hsw := hI.low.size
                    have HBy := Lib.hid (fun h1 W hMx hcc => byp_r hI.by_ HF.out hkl h1 hI.fok.none Ax n cx W hMx HLn.out (by omega) hcc)
                    have HBk := Lib.hid (by_at hI.by_ hkl)
                    have HFk := Lib.hid (hI.fok.none)
                    have HPu := Lib.hid (hI.fok.push hkl)
                    have HVs := Lib.hid (vmF_snoc a fs hkl)
                    have hm12 : mask < 2 ^ 63 := Nat.lt_trans hI.msk.lt (Nat.pow_lt_pow_right (by decide) (by omega))
                    have hp12 : (2 : Nat) ^ k < 2 ^ 63 := Nat.pow_lt_pow_right (by decide) (by omega)
                    have hor : bits .or .i64 (mask : Int) (wrap64 (2 ^ k)) = ((mask ||| 2 ^ k : Nat) : Int) := by
                      rw [shl_one (by omega)]
                      exact bo_or hm12 hp12
                    have cA := hI.bA.cell
                    have lA := hI.bA.lt
                    have cX := hI.bX.cell
                    have lX := hI.bX.lt
                    have HI := Lib.hid hI
                    clear hI HI0 hm12 hp12
                    generalize a.m[k] = y at *
                    obtain ⟨yn, yq, yon, yby⟩ := y
                    dsimp only at z0 z1 z2 z3 HBy HBk HPu HVs
                    subst eA
                    cases yby with
                    | true =>
                      as_aux_lemma =>
                        go_wp2_with fail
                        go_roundw
                        case rel =>
                          refine ⟨k + 1, fs, x, mask ||| 2 ^ k, Ax, cx, by omega, by go_num, by first | rfl | rw [hor], ?_⟩
                          have h := HI.out.kept (show Below wr.heap.size wr (wr.alloc (.cells #[.string yn, .int .i64 yq, .bool yon, .bool true] 48)) from (Below.refl _ _).alloc (Nat.le_refl _) _)
                          exact ⟨h.bA, h.bX, h.rX, h.cX, h.row, h.fok.skip hkl, h.by_, h.msk.set (fun _ _ => rfl) HBk.out, h.low⟩
                        case measure => simp [intOf]; omega
                    | false =>
                      obtain ⟨Av, cv, ev, _, _, _⟩ := own_form HI.out.row
                      subst ev
                      go_upto_region 11 with fail
                      refine wp_world ?_
                      intro W1 hW1
                      have hb1 : Below wr.heap.size wr W1 := by rw [hW1]; exact bl_
                      have HI1 := Lib.hid (HI.out.kept hb1)
                      have HM1 := Lib.hid (show Blk W1 wr.heap.size 48 #[.string yn, .int .i64 yq, .bool yon, .bool false] from by rw [hW1]; exact Blk.new _ _ _)
                      clear hW1 hb1 cA lA cX lX HI hsw hbw z0 z1 z2 z3
                      generalize wr.heap.size = gm at *
                      go_cut [97] (fun s97 wx => ∃ d : Bool, s97 = .bool d ∧ (d = false → fs.length ≠ 4) ∧ Below W1.heap.size W1 wx)
                      case first =>
                        go_wp2_with fail
                        all_goals
                          go_meet
                          first
                          | exact ⟨true, rfl, fun h => by simp at h, Below.refl _ _⟩
                          | exact ⟨_, rfl, fun h e => by rw [e] at h; simp at h, Below.refl _ _⟩
                      case rest =>
                        rename World => W2
                        obtain ⟨d, rfl, hd, hb⟩ := hcut
                        have HI2 := Lib.hid (HI1.out.kept hb)
                        have HM2 := Lib.hid (HM1.out.kept hb)
                        clear HI1 HM1 hb
                        cases d with
                        | true =>
                          as_aux_lemma =>
                            go_wp2_with fail
                            go_roundw
                            case rel =>
                              have h := HI2.out
                              exact ⟨k + 1, fs, x, mask, Ax, cx, by omega, by go_num, rfl, h.bA, h.bX, h.rX, h.cX, h.row, h.fok.skip hkl, h.by_, h.msk.skip (by rw [HBk.out, HFk.out]; rfl), h.low⟩
                            case measure => simp [intOf]; omega
                        | false =>
                          as_aux_lemma =>
                            have hl4 := hd rfl
                            have hbM := HM2.out
                            have hbX := HI2.out.bX
                            have cM := hbM.cell
                            have lM := hbM.lt
                            have cX := hbX.cell
                            have lX := hbX.lt
                            have HBc := Lib.hid (HBy.out rfl W2 (own_reads HI2.out.rX) HI2.out.cX)
                            clear hd hbM hbX HBy
                            go_wp2_with fail
                            refine HBc.out.mono ?_
                            rintro e w3 ⟨A3, c3, x2, rfl, hr3, hc3, hb3, hby3⟩
                            have HI3 := Lib.hid (HI2.out.kept hb3)
                            have HM3 := Lib.hid (HM2.out.kept hb3)
                            have HR3 := Lib.hid (row_base hr3 HI2.out.low.size)
                            have HB3 := Lib.hid hby3
                            have hs3 := HI3.out.low.size
                            clear hb3 hr3 hby3 HI2 HM2 HBc cM lM cX lX
                            have hbM := HM3.out
                            have hbX := HI3.out.bX
                            have cM := hbM.cell
                            have lM := hbM.lt
                            have cX := hbX.cell
                            have fX := hbX.frozen
                            have lX := hbX.lt
                            have hgx3 : gx < w3.heap.size := lX
                            clear hbM hbX
                            go_upto_region 17 with fail
                            refine wp_world ?_
                            intro W4 hW4
                            have hl3 := HI3.out
                            have hl44 : fs.length ≤ 4 := hl3.fok.len
                            have hneA : w.heap.size ≠ gx := blk_ne hl3.bA hl3.bX (by decide)
                            have hneM : gm ≠ gx := blk_ne HM3.out hl3.bX (by decide)
                            have HA4 := Lib.hid (show Blk W4 w.heap.size 26 _ from by rw [hW4]; exact (put5_far hl3.bA hneA).alloc _)
                            have HX4 := Lib.hid (show Blk W4 gx 36 #[.slice A3 n c3, .int .i64 a.lo, .int .i64 a.hi, .int .i64 a.cur, .int .i64 a.lim] from by rw [hW4]; exact (put5_blk hl3.bX).alloc _)
                            have HM4 := Lib.hid (show Blk W4 gm 48 _ from by rw [hW4]; exact (put5_far HM3.out hneM).alloc _)
                            have HR4 := Lib.hid (show W4.ownsRow w.heap.size 115 4 (.slice A3 n c3) n (mds x2.m) from by rw [hW4]; exact World.ownsRow.alloc (row_put5 HR3.out hl3.bX (by decide)) _)
                            have HV4 := Lib.hid (show W4.ownsRow w.heap.size 90 4 (.slice Av fs.length cv) fs.length (vms (vmF a fs)) from by rw [hW4]; exact World.ownsRow.alloc (row_put5 hl3.row hl3.bX (by decide)) _)
                            have HL4 := Lib.hid (show Below w.heap.size w W4 from by rw [hW4]; exact (put5_low hl3.low (by omega)).alloc (by simp [World.setCell]; omega) _)
                            have HK3 := Lib.hid hl3.msk
                            have HP3 := Lib.hid (HPu.out hl4 (by trivial))
                            have HY3 := Lib.hid hl3.by_
                            clear hW4 hl3 HI3 HM3 HR3 cM lM cX fX lX HPu
                            have hbM := HM4.out
                            have cM := hbM.cell
                            have lM := hbM.lt
                            have hs4 := HL4.out.size
                            clear hbM
                            go_wp2_with (at_builtin; refine wpList_app 87 90 4 40 elemVm rfl (.tmp 112) (.tmp 116) rfl w.heap.size _ fs.length _ rfl HV4.out 1 rfl rfl ?h1 (by decide) ?h3 (by omega) (by omega) ?_)
                            case h1 => exact ⟨rfl, rfl, rfl, rfl⟩
                            case h3 => unfold maxLen; omega
                            intro g' cap' w' hown' hb' hk' hs'
                            go_wp2
                            go_roundw
                            case rel =>
                              refine ⟨k + 1, fs ++ [k], x2, mask ||| 2 ^ k, A3, c3, by omega, by go_num, by first | rfl | rw [hor], ?_⟩
                              have hne1 := own_ne HV4.out HA4.out (by decide)
                              have hne2 := own_ne HV4.out HX4.out (by decide)
                              have hby2 := HB3.out
                              have hk2 : k < a.m.length := hkl
                              refine ⟨hk' _ _ _ HA4.out hne1, hk' _ _ _ HX4.out hne2, row_same HR4.out (fun j d hj => hk' _ _ _ hj (own_ne HV4.out hj (by decide))), hc3, ?_, HP3.out, ?_, ?_, HL4.out.trans hb'⟩
                              · rw [HVs.out, List.length_append, List.length_singleton]
                                unfold vms at hown' ⊢
                                rw [List.flatMap_append]
                                exact hown'
                              · refine hby2.congr fun i _ => ?_
                                rw [Bool.eq_iff_iff, Bool.or_eq_true, beq_iff_eq, List.contains_iff_mem, List.contains_iff_mem, List.mem_append, List.mem_singleton]
                              · refine HK3.out.set (fun j hj => ?_) ?_
                                · rw [by_at hby2 (by omega), by_at HY3.out (by omega)]
                                  have : (j == k) = false := by simpa using Nat.ne_of_lt hj
                                  rw [this, Bool.or_false]
                                · rw [by_at hby2 hk2]
                                  simp
                            case measure => simp [intOf]; omega
                · skip
                  as_aux_lemma =>
                    obtain rfl : k = n := by omega
                    have HI := Lib.hid hI
                    clear hI HI0
                    go_wp2_with fail
                    go_meet
                    case rel => exact ⟨fs, x, mask, Ax, cx, rfl, HI.out⟩
            case rest =>
              rename World => W2
              obtain ⟨fs, x, mask, Ax, cx, rfl, hI⟩ := hcut
              have hxl : x.m.length = n := by rw [hI.by_.len, HLn.out]
              have HMa := Lib.hid (hI.msk.all hxl)
              have HMl : Hid (mask < 2 ^ 12) := Lib.hid (Nat.lt_of_lt_of_le hI.msk.lt (Nat.pow_le_pow_right (by decide) (by omega)))
              have HBy := Lib.hid hI.by_
              have HFx := Lib.hid (fit_of hI.by_.ok)
              have hul : (usL x).length ≤ n := by rw [← hxl]; exact us_len_le x
              have HUs := Lib.hid (HMa.out.sub (l := usL x) (fun i h => h) HFx.out)
              have HUl := Lib.hid (us_lt (x := x) (by omega))
              have HOn := Lib.hid (HMa.out.sub (l := onL x) (on_sub HFx.out) HFx.out)
              have HOl : Hid (∀ i ∈ onL x, 0 ≤ i ∧ i < 12) := Lib.hid (fun i hi => HUl.out i (on_sub HFx.out i hi))
              obtain ⟨Av, cv, ev, hcv, _, _⟩ := own_form hI.row
              subst ev
              have HI := Lib.hid hI
              have hsW := hI.low.size
              have cX := hI.bX.cell
              have lX := hI.bX.lt
              have HU1 := Lib.hid (fun W (hW : Below W2.heap.size W2 W) => use_r HBy.out HF.out Ax n cx W (own_reads (own_kept HI.out.rX hW)) HI.out.cX)
              have HR1 := Lib.hid (fun W (hW : Below W2.heap.size W2 W) => res_r HBy.out HF.out Ax n cx W (own_reads (own_kept HI.out.rX hW)) HI.out.cX)
              have HC1 := Lib.hid (fun W (hW : Below W2.heap.size W2 W) => chk_r HBy.out HF.out Ax n cx W (own_reads (own_kept HI.out.rX hW)) HI.out.cX)
              have HH1 := Lib.hid (fun W (hW : Below W2.heap.size W2 W) => cho_r HBy.out HF.out ⟨(usL x).length, 0⟩ Ax n cx W (own_reads (own_kept HI.out.rX hW)) HI.out.cX)
              have HO1 := Lib.hid (fun W (hW : Below W2.heap.size W2 W) => on_r HBy.out Ax n cx W (own_reads (own_kept HI.out.rX hW)) (by omega))
              clear hI HI0
              go_wp2_with fail
              refine (HU1.out _ (Below.refl _ _)).mono ?_
              rintro e w1 ⟨Au, cu, rfl, hru, hb⟩
              have HL := Lib.hid hb
              have HRu := Lib.hid hru
              clear hb hru cX lX
              have bX := HI.out.bX.kept HL.out
              have cX := bX.cell
              have lX := bX.lt
              clear bX
              go_wp2_with fail
              clear cX lX
              refine (HR1.out _ HL.out).mono ?_
              rintro e w1 ⟨rfl, hb⟩
              replace HL := Lib.hid (HL.out.trans (hb.mono HL.out.size))
              replace HRu := Lib.hid ((HRu.out.below hb).more hb.size)
              clear hb
              have bX := HI.out.bX.kept HL.out
              have cX := bX.cell
              have lX := bX.lt
              clear bX
              go_wp2_with fail
              clear cX lX
              refine (HC1.out _ HL.out).mono ?_
              rintro e w1 ⟨rfl, hb⟩
              replace HL := Lib.hid (HL.out.trans (hb.mono HL.out.size))
              replace HRu := Lib.hid ((HRu.out.below hb).more hb.size)
              clear hb
              have bX := HI.out.bX.kept HL.out
              have cX := bX.cell
              have lX := bX.lt
              clear bX
              go_wp2_with fail
              clear cX lX
              refine (bits_any _ _ _ _ (usL x) _ HRu.out (by omega) HUl.out).mono ?_
              rintro e w1' ⟨rfl, rfl⟩
              have hbz : bits .and .i64 (bitN (usL x) : Int) (mask : Int) = 0 := bits_zero (bitN_lt HUl.out) HMl.out HUs.out
              have bX := HI.out.bX.kept HL.out
              have cX := bX.cell
              have lX := bX.lt
              clear bX
              go_wp2_with fail
              clear cX lX
              refine (HH1.out _ HL.out).mono ?_
              rintro e w1 ⟨vs, rfl, hrs, hzz, hb⟩
              replace HL := Lib.hid (HL.out.trans (hb.mono HL.out.size))
              clear hb HRu hzz
              have HZs := Lib.hid (cho_us HBy.out.ok)
              have HE0 := Lib.hid (all_ref HBy.out.ok)
              have hzl : (choL x ⟨(usL x).length, 0⟩).length ≤ 1000 := by
                have := choL_len (x := x) HBy.out.ok
                omega
              generalize choL x ⟨(usL x).length, 0⟩ = zs at *
              generalize choE x ⟨(usL x).length, 0⟩ = er at *
              obtain ⟨As, cs, es, _, _, hrz⟩ := own_form hrs
              subst es
              have HRz := Lib.hid hrz
              clear hrs hrz hbz
              go_upto_if 162 with fail
              refine wp_world ?_
              intro W3 hW3
              have HL3 : Hid (Below W2.heap.size W2 W3) := Lib.hid (by rw [hW3]; exact HL.out)
              have HR3 : Hid (Reads W3 W3.heap.size 1 As zs.length (zs.map (.int .i64))) := Lib.hid (by rw [hW3]; exact HRz.out)
              clear hW3 HL HRz
              go_cut [162] (fun _ wx => Below W2.heap.size W2 wx)
              case first =>
                as_aux_lemma =>
                  rcases HE0.out with rfl | rfl
                  · skip
                    as_aux_lemma =>
                      have HZi := Lib.hid (HZs.out rfl)
                      have HZb := Lib.hid (HMa.out.sub (l := zs) HZi.out HFx.out)
                      have HZl : Hid (∀ i ∈ zs, 0 ≤ i ∧ i < 12) := Lib.hid (fun i hi => HUl.out i (HZi.out i hi))
                      have hb1 := bitN_lt HOl.out
                      have hb2 := bitN_lt HZl.out
                      have HTr : Hid (TrOk [⟨0, (bitN (onL x) : Nat)⟩, ⟨1, (bitN zs : Nat)⟩]) := Lib.hid (tr_two hb1 hb2)
                      have HTm : Hid (∀ y ∈ [(⟨0, (bitN (onL x) : Nat)⟩ : Od), ⟨1, (bitN zs : Nat)⟩], y.c.toNat &&& mask = 0) := Lib.hid (fun y hy => by
                        rcases List.mem_cons.1 hy with rfl | hy
                        · exact HOn.out
                        · obtain rfl := List.mem_singleton.1 hy
                          exact HZb.out)
                      have HCn : Hid (∀ v, mask.testBit v = true → cntT (xrL [⟨0, (bitN (onL x) : Nat)⟩, ⟨1, (bitN zs : Nat)⟩]) v = 0) := Lib.hid (fun v hv => cnt_two 0 1 (bitN (onL x)) (bitN zs) v mask HOn.out HZb.out hv)
                      have bX := HI.out.bX.kept HL3.out
                      have cX := bX.cell
                      have lX := bX.lt
                      clear bX hb1 hb2
                      go_wp2_with fail
                      refine (HO1.out _ HL3.out).mono ?_
                      rintro e w1 ⟨rfl, hb⟩
                      have HL := Lib.hid hb
                      have HR4 := Lib.hid ((HR3.out.below hb).more hb.size)
                      clear hb cX lX
                      go_wp2_with fail
                      refine (bits_any _ _ _ _ zs _ HR4.out (by omega) HZl.out).mono ?_
                      rintro e w1' ⟨rfl, rfl⟩
                      generalize bitN (onL x) = on at *
                      generalize bitN zs = st at *
                      generalize hcn : cntT (xrL [⟨0, (on : Nat)⟩, ⟨1, (st : Nat)⟩]) = C at *
                      go_upto_region 26 with fail
                      refine wp_world ?_
                      intro W5 hW5
                      have HB5 := Lib.hid (show Blk W5 w1.heap.size 98 #[.int .i64 0, .int .i64 on, .int .i64 1, .int .i64 st] from by rw [hW5]; exact Blk.new _ _ _)
                      have HL5 := Lib.hid (show Below W3.heap.size W3 W5 from by rw [hW5]; exact HL.out.alloc HL.out.size _)
                      have hs5 : W5.heap.size = w1.heap.size + 1 := by rw [hW5]; simp
                      have HR5 : Hid (Reads W5 W5.heap.size 2 (some ⟨w1.heap.size, 0, none⟩) 2 (ods [⟨0, (on : Nat)⟩, ⟨1, (st : Nat)⟩])) := Lib.hid ((Reads.blk_at (pre := []) (post := []) HB5.out rfl rfl rfl).more (by omega))
                      generalize w1.heap.size = g1 at *
                      clear hW5 HL HR4
                      go_wp2_with fail
                      refine (Bypassed_same _ _ 2 2 mask _ _ HR5.out (Nat.le_refl _) HTr.out HMl.out HTm.out).mono ?_
                      rintro e W6 ⟨g6, rfl, hr6, hb6⟩
                      have HL6 := Lib.hid (HL5.out.trans (hb6.mono HL5.out.size))
                      have HR6 := Lib.hid ((HR5.out.below hb6).more hb6.size)
                      have HQ6 := Lib.hid hr6
                      clear hr6 hb6 HR5 HB5
                      go_wp2_with fail
                      refine (Switchings_any _ _ 2 2 _ _ HR6.out (Nat.le_refl _) HTr.out).mono ?_
                      rw [hcn]
                      rintro e W7 ⟨rfl, hb7⟩
                      have HL7 := Lib.hid (HL6.out.trans (hb7.mono HL6.out.size))
                      have HR7 := Lib.hid ((HR6.out.below hb7).more hb7.size)
                      have HQ7 := Lib.hid ((HQ6.out.below hb7).more hb7.size)
                      clear hb7 HR6 HQ6 HTr HTm
                      have HU7 : Hid (∀ W, Calls Tryz.prog 42 #[.slice (some ⟨g6, 0, none⟩) 2 2, .slice (some ⟨g1, 0, none⟩) 2 2] W (fun e w' => e = .returned (.bool true) ∧ Below W.heap.size W w') → True) := Lib.hid (fun _ _ => trivial)
                      go_upto_region 28 with fail
                      refine wp_world ?_
                      intro W8 hW8
                      have hb8 : Below W7.heap.size W7 W8 := by rw [hW8]; exact (Below.refl _ _).alloc (Nat.le_refl _) _
                      have HB8 := Lib.hid (show Blk W8 W7.heap.size 102 #[.int .i64 (C 0), .int .i64 (C 1), .int .i64 (C 2), .int .i64 (C 3), .int .i64 (C 4), .int .i64 (C 5), .int .i64 (C 6), .int .i64 (C 7), .int .i64 (C 8), .int .i64 (C 9), .int .i64 (C 10), .int .i64 (C 11)] from by rw [hW8]; exact Blk.new _ _ _)
                      have HL8 := Lib.hid (HL7.out.trans (hb8.mono HL7.out.size))
                      have HS8 := Lib.hid (shackleSame_yes W8.heap.size (some ⟨g6, 0, none⟩) (some ⟨g1, 0, none⟩) 2 2 2 _ W8 ((HQ7.out.below hb8).more hb8.size) ((HR7.out.below hb8).more hb8.size) (Nat.le_refl _) (by omega))
                      generalize W7.heap.size = g7 at *
                      clear hW8 hb8 HL7 HR7 HQ7 HU7 HL5 HL6
                      go_wp2_with fail
                      refine HS8.out.mono ?_
                      rintro e W9 ⟨rfl, hb9⟩
                      have HL9 := Lib.hid (HL8.out.trans (hb9.mono HL8.out.size))
                      have hB9 := HB8.out.kept hb9
                      have cB := hB9.cell
                      have lB := hB9.lt
                      clear hb9 HS8 HB8 HL8 hB9
                      have HCi := Lib.hid (fun v hv W => p12_index C (k := v) hv W)
                      have HMd2 := Lib.hid HMl.out
                      go_wp2_with fail
                      clear cB lB
                      go_loopw [194] (fun s194 wr => ∃ v : Nat, v ≤ 12 ∧ s194 = .int .i64 (v : Int) ∧ Below W3.heap.size W3 wr) (fun s194 _ => 12 - (intOf s194).toNat)
                      case atStart => exact ⟨0, by omega, rfl, HL9.out⟩
                      case round =>
                        obtain ⟨v, hv, rfl, hb⟩ := hrel
                        have HB := Lib.hid hb
                        clear hb
                        by_cases hlv : v < 12
                        · skip
                          as_aux_lemma =>
                            have hvI : (v : Int) < 12 := by omega
                            have hix := fun W => HCi.out v hlv W
                            have hbit : bits .and .i64 ((mask : Int) / 2 ^ v) 1 = bitI mask v := bit_of HMd2.out
                            cases hm : mask.testBit v with
                            | true =>
                              have h1 : bitI mask v = 1 := by unfold bitI; rw [hm]; rfl
                              have h0 : C v = 0 := HCn.out v hm
                              rw [h1] at hbit
                              rw [h0] at hix
                              clear hm h1 h0
                              go_wp2_with fail
                              go_roundw
                              case rel => exact ⟨v + 1, by omega, by go_num, HB.out⟩
                              case measure => simp [intOf]; omega
                            | false =>
                              have h1 : bitI mask v = 0 := by unfold bitI; rw [hm]; rfl
                              rw [h1] at hbit
                              clear hm h1
                              go_wp2_with fail
                              go_roundw
                              case rel => exact ⟨v + 1, by omega, by go_num, HB.out⟩
                              case measure => simp [intOf]; omega
                        · skip
                          as_aux_lemma =>
                            obtain rfl : v = 12 := by omega
                            go_wp2_with fail
                            go_meet
                            case rel => exact HL3.out.trans (HB.out.mono HL3.out.size)
                  · skip
                    as_aux_lemma =>
                      go_wp2_with fail
                      go_meet
                      case rel => exact Below.refl _ _ |>.trans HL3.out
              case rest =>
                as_aux_lemma =>
                  rename World => W4
                  have HI4 := Lib.hid (HI.out.kept hcut)
                  have HO4 := Lib.hid (HOs.out.below HI4.out.low)
                  have hs4 := HI4.out.low.size
                  clear hcut HU1 HR1 HC1 HH1 HO1 HZs HE0 hzl HR3 HL3 HI HOn HOl HUs HUl HMl HMa HFx hsW
                  go_upto_block 4 with fail
                  go_cut [27] (fun s27 wx => wx.ownsRow W4.heap.size 109 3 s27 no (ots os) ∧ Below W4.heap.size W4 wx)
                  case first =>
                    as_aux_lemma =>
                      go_wp2_with fail
                      go_loopw [27, 212] (fun s27 s212 wr => ∃ k : Nat, k ≤ no ∧ s212 = .int .i64 (k : Int) ∧ wr.ownsRow W4.heap.size 109 3 s27 k (ots (os.take k)) ∧ Below W4.heap.size W4 wr) (fun _ s212 _ => no - (intOf s212).toNat)
                      case atStart => exact ⟨0, by omega, rfl, World.ownsRow_nil _ _ _ _, Below.refl _ _⟩
                      case round =>
                        obtain ⟨k, hk, rfl, hO, hb⟩ := hrel
                        have HB := Lib.hid hb
                        have hsr := hb.size
                        by_cases hlt : k < no
                        · skip
                          as_aux_lemma =>
                            have hkl : k < os.length := by rw [HLo.out]; exact hlt
                            have hkI : (k : Int) < (no : Int) := by omega
                            obtain ⟨b, o, eA, hbb, z0, z1, z2⟩ := (ot_at (HO4.out.below (hb.mono hs4))).2 k hkl
                            have hbw : b < wr.heap.size := by omega
                            have HTk := Lib.hid (List.take_succ_eq_append_getElem hkl)
                            generalize os[k] = y at *
                            obtain ⟨yt, yh, yc⟩ := y
                            dsimp only at z0 z1 z2
                            have HO0 := Lib.hid hO
                            subst eA
                            clear hO hb
                            obtain ⟨A27, c27, e27, _, _, _⟩ := own_form HO0.out
                            subst e27
                            go_upto_region 42 with fail
                            refine wp_world ?_
                            intro W5 hW5
                            have hb5 : Below wr.heap.size wr W5 := by rw [hW5]; exact (Below.refl _ _).alloc (Nat.le_refl _) _
                            have hB29 : Blk W5 wr.heap.size 108 #[.int .i64 yt, .int .i64 yh, .int .i64 yc] := by rw [hW5]; exact Blk.new _ _ _
                            have HO1 := Lib.hid (own_kept HO0.out hb5)
                            have HB5 := Lib.hid (HB.out.trans (hb5.mono hsr))
                            have hs5 := HB5.out.size
                            have cB := hB29.cell
                            have lB := hB29.lt
                            generalize wr.heap.size = g29 at *
                            clear hW5 hb5 hB29
                            go_wp2_with (at_builtin; refine wpList_app 106 109 3 24 elemOut rfl (.tmp 216) (.tmp 218) rfl W4.heap.size _ k _ rfl HO1.out 1 rfl rfl ?h1 (by decide) ?h3 (by omega) (by omega) ?_)
                            case h1 => exact ⟨rfl, rfl, rfl⟩
                            case h3 => unfold maxLen; omega
                            intro g' cap' w' hown' hb' hk' hs'
                            go_wp2
                            go_roundw
                            case rel =>
                              refine ⟨k + 1, by omega, by go_num, ?_, HB5.out.trans hb'⟩
                              rw [HTk.out]
                              unfold ots at hown' ⊢
                              rw [List.flatMap_append]
                              exact hown'
                            case measure => simp [intOf]; omega
                        · skip
                          as_aux_lemma =>
                            obtain rfl : k = no := by omega
                            have hO2 : wr.ownsRow W4.heap.size 109 3 u27 k (ots os) := by
                              rw [List.take_of_length_le (by rw [HLo.out]; exact Nat.le_refl _)] at hO
                              exact hO
                            have HO2 := Lib.hid hO2
                            clear hO hO2 hb
                            go_wp2_with fail
                            go_meet
                            case rel => exact ⟨HO2.out, HB.out⟩
                  case rest =>
                    as_aux_lemma =>
                      rename World => W5
                      obtain ⟨hO5, hb5⟩ := hcut
                      obtain ⟨A5, c5, e5, _, _, _⟩ := own_form hO5
                      subst e5
                      have HI5 := Lib.hid (HI4.out.kept hb5)
                      have HO5 := Lib.hid (own_reads hO5)
                      have hl44 : fs.length ≤ 4 := HI5.out.fok.len
                      have hs5 := HI5.out.low.size
                      have HVk := Lib.hid (vmF_ok HE.out HF.out HI5.out.fok)
                      clear hO5 hb5 HI4 HO4 hs4
                      go_wp2_with (at_builtin; refine wpList_plain rfl fun K hK => ?_; refine wp_spread 106 109 3 24 elemOut (.tmp 223) (.tmp 224) rfl W5.heap.size W5.heap.size rfl (Own.new W5 W5.heap.size 109 3 0 #[] (Nat.le_refl _) rfl (by unfold maxLen; decide)) A5 no c5 W5.heap.size (ots os) rfl (HO5.out.alloc (Nat.le_refl _) _) (ots_one os) (by unfold maxLen; omega) (by omega) (by simp) ?_)
                      intro v' x6 hown hg hne
                      have hb6 : Below W5.heap.size W5 x6 := (((Below.refl _ W5).alloc (Nat.le_refl _) (.cells #[] 109)).grown hg (by simp) (fun k e => by cases e; exact Nat.le_refl _))
                      obtain ⟨A6, c6, rfl, hc6, _, hrd6⟩ := own_form hown
                      have HI6 := Lib.hid (HI5.out.kept hb6)
                      have HO6 := Lib.hid ((HO5.out.below hb6).more hb6.size)
                      have HPl := Lib.hid (Plan_any Av A6 fs.length cv no c6 (vmF a fs) os x6 HVk.out HOk.out (own_reads HI6.out.row) hrd6 hcv)
                      have hs6 := HI6.out.low.size
                      clear hown hg hne hb6 hrd6 HI5 HO5 hs5
                      refine hK _ _ ?_
                      clear hK K
                      go_wp2_with fail
                      refine HPl.out.mono ?_
                      rintro e x7 ⟨hb7, (⟨v, z, ks, rfl, hown, hP⟩ | ⟨hne, rfl⟩)⟩
                      · skip
                        as_aux_lemma =>
                          have hkl : ks.length = fs.length := by rw [hP.len, vmF_len]
                          rw [hkl] at hown
                          obtain ⟨Ap, cp, ep, _, _, _⟩ := own_form hown
                          subst ep
                          have HI7 := Lib.hid (HI6.out.kept hb7)
                          have HO7 := Lib.hid ((HO6.out.below hb7).more hb7.size)
                          have HK7 := Lib.hid (row_base hown hs6)
                          have HPk := Lib.hid hP
                          have HKl := Lib.hid hkl
                          have hs7 := HI7.out.low.size
                          clear hown hb7 hP hkl HI6 HO6 HPl hs6
                          go_wp2_with (at_builtin; refine wpList_plain rfl fun K hK => ?_; refine wp_spread 106 109 3 24 elemOut (.tmp 244) (.tmp 245) rfl x7.heap.size x7.heap.size rfl (Own.new x7 x7.heap.size 109 3 0 #[] (Nat.le_refl _) rfl (by unfold maxLen; decide)) A5 no c5 x7.heap.size (ots os) rfl (HO7.out.alloc (Nat.le_refl _) _) (ots_one os) (by unfold maxLen; omega) (by omega) (by simp) ?_)
                          intro v' x8 hown hg hne
                          have hb8 : Below x7.heap.size x7 x8 := (((Below.refl _ x7).alloc (Nat.le_refl _) (.cells #[] 109)).grown hg (by simp) (fun k e => by cases e; exact Nat.le_refl _))
                          obtain ⟨A8, c8, rfl, hc8, _, hrd8⟩ := own_form hown
                          have HI8 := Lib.hid (HI7.out.kept hb8)
                          have HK8 := Lib.hid (own_kept HK7.out hb8)
                          have HO8 := Lib.hid hrd8
                          have hs8 := HI8.out.low.size
                          clear hown hg hne hb8 hrd8 HI7 HK7 HO7 hs7
                          refine hK _ _ ?_
                          clear hK K
                          go_wp2_with (at_builtin; refine wpList_plain rfl fun K hK => ?_; refine wp_spread 73 3 1 8 elemInt (.tmp 247) (.tmp 248) rfl x8.heap.size x8.heap.size rfl (Own.new x8 x8.heap.size 3 1 0 #[] (Nat.le_refl _) rfl (by unfold maxLen; decide)) Ap fs.length cp x8.heap.size (ks.map (.int .i64)) rfl ((own_reads HK8.out).alloc (Nat.le_refl _) _) (fun v hv => by obtain ⟨y, _, rfl⟩ := List.mem_map.1 hv; rfl) (by unfold maxLen; omega) (by omega) (by simp) ?_)
                          intro v' x9 hown hg hne
                          have hb9 : Below x8.heap.size x8 x9 := (((Below.refl _ x8).alloc (Nat.le_refl _) (.cells #[] 3)).grown hg (by simp) (fun k e => by cases e; exact Nat.le_refl _))
                          obtain ⟨A9, c9, rfl, hc9, _, hrd9⟩ := own_form hown
                          have HI9 := Lib.hid (HI8.out.kept hb9)
                          have HK9 := Lib.hid (own_kept HK8.out hb9)
                          have HSp := Lib.hid (Spares_any x9.heap.size x9.heap.size Av A8 A9 fs.length cv no c8 c9 (vmF a fs) os ks x9 (own_reads HI9.out.row) ((HO8.out.below hb9).more hb9.size) (Nat.le_refl _) hrd9 (Nat.le_refl _) HVk.out HOk.out HPk.out hcv)
                          have hs9 := HI9.out.low.size
                          clear hown hg hne hb9 hrd9 HI8 HK8 HO8 hs8
                          refine hK _ _ ?_
                          clear hK K
                          go_wp2_with fail
                          refine HSp.out.mono ?_
                          rintro e y0 ⟨rfl, hb⟩
                          have HI0 := Lib.hid (HI9.out.kept hb)
                          have HK0 := Lib.hid (own_kept HK9.out hb)
                          clear hb HI9 HK9 HSp hs9 HVk
                          have hneA : w.heap.size ≠ gx := blk_ne HI0.out.bA HI0.out.bX (by decide)
                          have HU0 := Lib.hid (useN_zero (ks := ks) fun z hz => (HPk.out.ok.rng z hz).1)
                          have HUn : Hid (useN ks no = fs.length) := Lib.hid (by rw [← HKl.out]; exact useN_all fun z hz => by rw [← HLo.out]; exact (HPk.out.ok.rng z hz).2)
                          have hul : (usL x).length ≤ n := by rw [← hxl]; exact us_len_le x
                          go_upto_block 6 with fail
                          go_cut [16] (fun s16 wx => s16 = .int .i64 (((usL x).length + fs.length : Nat) : Int) ∧ Below w.heap.size w wx)
                          case first =>
                            go_wp2_with fail
                            go_loopw [16, 270] (fun s16 s270 wr => ∃ (k : Nat) (x' : Ar) (Ax' : Option Addr) (cx' : Nat), k ≤ no ∧ s270 = .int .i64 (k : Int) ∧ s16 = .int .i64 ((usL x').length : Nat) ∧ (usL x').length = (usL x).length + useN ks k ∧ RpI w gx a n y0 x' (pend fs ks k 0) Ax' cx' wr) (fun _ s270 _ => no - (intOf s270).toNat)
                            case atStart => exact ⟨0, x, Ax, cx, by omega, rfl, rfl, by rw [HU0.out]; rfl, HI0.out.bX, HI0.out.rX, HI0.out.cX, HI0.out.by_.congr fun i _ => (pend_start HKl.out (fun z hz => (HPk.out.ok.rng z hz).1) i).symm, Ex.refl _ _⟩
                            case round =>
                              as_aux_lemma =>
                                obtain ⟨k, x', Ax', cx', hk, rfl, rfl, hus, hR⟩ := hrel
                                have HR := Lib.hid hR
                                have HUk := Lib.hid hus
                                have HUs2 := Lib.hid (useN_succ ks k)
                                clear hR hus
                                by_cases hlt : k < no
                                · skip
                                  have hkI : (k : Int) < (no : Int) := by omega
                                  go_wp2_with fail
                                  go_loopw [16, 275] (fun s16 s275 wr => ∃ (j : Nat) (x' : Ar) (Ax' : Option Addr) (cx' : Nat), j ≤ fs.length ∧ s275 = .int .i64 (j : Int) ∧ s16 = .int .i64 ((usL x').length : Nat) ∧ (usL x').length = (usL x).length + useN ks k + eqN (ks.take j) k ∧ RpI w gx a n y0 x' (pend fs ks k j) Ax' cx' wr) (fun _ s275 _ => fs.length - (intOf s275).toNat)
                                  case atStart => exact ⟨0, x', Ax', cx', by omega, rfl, rfl, by rw [HUk.out]; simp [eqN], HR.out⟩
                                  case round =>
                                    obtain ⟨j, x', Ax', cx', hj, rfl, rfl, hus, hR⟩ := hrel
                                    have HRj := Lib.hid hR
                                    have HUj := Lib.hid hus
                                    clear hR hus HR HUk
                                    by_cases hltj : j < fs.length
                                    · skip
                                      as_aux_lemma =>
                                        have hj' : j < (vmF a fs).length := by rw [vmF_len]; exact hltj
                                        have hjk : j < ks.length := by rw [HKl.out]; exact hltj
                                        have hjI : (j : Int) < (fs.length : Int) := by omega
                                        obtain ⟨b, o, eV, hbb, z0, z1, z2, z3⟩ := (vm_at (own_reads HI0.out.row)).2 j hj'
                                        obtain ⟨b2, o2, eP, hbb2, z4⟩ := (int_at (own_reads HK0.out)).2 j hjk
                                        have him : fs[j] < a.m.length := by have := HI0.out.fok.lt _ (List.getElem_mem hltj); rw [HLn.out]; exact this
                                        rw [vm_cells hj' hltj him] at z0 z1 z2 z3
                                        dsimp only at z0 z1 z2 z3
                                        have hb1x : b ≠ gx := fun e => own_ne HI0.out.row HI0.out.bX (by decide) (by rw [eV, e]; rfl)
                                        have hb2x : b2 ≠ gx := fun e => own_ne HK0.out HI0.out.bX (by decide) (by rw [eP, e]; rfl)
                                        have kb : ∀ i, wr.cell? ⟨b, i, none⟩ = y0.cell? ⟨b, i, none⟩ := fun i => World.cell?_of_block (w := y0) (HRj.out.ex.block b hbb (by simpa using hb1x))
                                        have kb2 : ∀ i, wr.cell? ⟨b2, i, none⟩ = y0.cell? ⟨b2, i, none⟩ := fun i => World.cell?_of_block (w := y0) (HRj.out.ex.block b2 hbb2 (by simpa using hb2x))
                                        rw [← kb] at z0 z1 z2 z3
                                        rw [← kb2] at z4
                                        have hszr := HRj.out.ex.size
                                        have hbw : b < wr.heap.size := by omega
                                        have hb2w : b2 < wr.heap.size := by omega
                                        have hbyF : (a.m[fs[j]]).by_ = false := HI0.out.fok.by_ _ (List.getElem_mem hltj) _ (List.getElem?_eq_getElem him)
                                        have HTk := Lib.hid (eqN_take ks k hjk)
                                        have hgd : ks.getD j 0 = ks[j] := by rw [List.getD_eq_getElem?_getD, List.getElem?_eq_getElem hjk]; rfl
                                        have hgf : fs.getD j 0 = fs[j] := by rw [List.getD_eq_getElem?_getD, List.getElem?_eq_getElem hltj]; rfl
                                        by_cases hz : ks[j] = (k : Int)
                                        · skip
                                          as_aux_lemma =>
                                            have HRp := Lib.hid (fun W hMx hcc => rep_r HRj.out.by_ HF.out him hbyF (pend_has hltj (hgd.trans hz)) Ax' n cx' W hMx HLn.out (by omega) hcc)
                                            have HPt := Lib.hid (fun m => (pend_take HI0.out.fok.up hltj (hgd.trans hz) m).trans (by rw [hgf]))
                                            rw [if_pos hz] at HTk
                                            rw [hz] at z4
                                            have HAr := Lib.hid (HRj.out.ex.blk HI0.out.bA (by simpa using hneA))
                                            obtain ⟨nm, hnm⟩ : ∃ nm, (a.m[fs[j]]).n = nm := ⟨_, rfl⟩
                                            rw [hnm] at z0 HRp
                                            subst eV
                                            subst eP
                                            clear kb kb2 hgd hgf hz hbyF hnm him
                                            go_upto_region 57 with fail
                                            refine wp_world ?_
                                            intro W1 hW1
                                            have hb1 : Below wr.heap.size wr W1 := by rw [hW1]; exact (Below.refl _ _).alloc (Nat.le_refl _) _
                                            have HR1 := Lib.hid (HRj.out.kept hb1)
                                            have HA1 := Lib.hid (HAr.out.kept hb1)
                                            have HB1 := Lib.hid (show Blk W1 wr.heap.size 90 #[.string nm, .int .i64 0, .int .i64 100000, .int .i64 1] from by rw [hW1]; exact Blk.new _ _ _)
                                            have hcX1 := HR1.out.cX
                                            have HRq := Lib.hid (HRp.out W1 (own_reads HR1.out.rX) hcX1)
                                            clear hW1 hb1 HAr HRp z0 z1 z2 z3 z4 hbw hb2w
                                            generalize wr.heap.size = g37 at *
                                            have cX := HR1.out.bX.cell
                                            have lX := HR1.out.bX.lt
                                            have cA := HA1.out.cell
                                            have lA := HA1.out.lt
                                            have cB := HB1.out.cell
                                            have lB := HB1.out.lt
                                            go_wp2_with fail
                                            refine HRq.out.mono ?_
                                            rintro e W2' ⟨A2, c2, x2, rfl, hr2, hc2, hb2, hby2, hus2⟩
                                            have HR2 := Lib.hid (HR1.out.kept hb2)
                                            have HX2 := Lib.hid (row_base hr2 (show w.heap.size ≤ W1.heap.size by have := HR1.out.ex.size; have := HI0.out.low.size; omega))
                                            have HY2 := Lib.hid hby2
                                            have HN2 := Lib.hid hus2
                                            clear hb2 hr2 hby2 hus2 HRq HR1 HA1 HB1 cX lX cA lA cB lB
                                            go_upto_region 58 with fail
                                            refine wp_world ?_
                                            intro W3' hW3
                                            have hb3 : Below W2'.heap.size W2' W3' := by rw [hW3]; exact (Below.refl _ _).alloc (Nat.le_refl _) _
                                            have HR3 := Lib.hid (HR2.out.kept hb3)
                                            have HX3 := Lib.hid (own_kept HX2.out hb3)
                                            have HB3 := Lib.hid (show Blk W3' W2'.heap.size 36 #[.slice A2 n c2, .int .i64 a.lo, .int .i64 a.hi, .int .i64 a.cur, .int .i64 a.lim] from by rw [hW3]; exact Blk.new _ _ _)
                                            have hne38 : W2'.heap.size ≠ gx := by have := HR2.out.bX.lt; omega
                                            generalize W2'.heap.size = g38 at *
                                            clear hW3 hb3 HR2 HX2
                                            have HRs := Lib.hid (res_r HY2.out HF.out A2 n c2 W3' (own_reads HX3.out) hc2)
                                            have cB := HB3.out.cell
                                            have lB := HB3.out.lt
                                            go_wp2_with fail
                                            refine HRs.out.mono ?_
                                            rintro e W4' ⟨rfl, hb4⟩
                                            have HR4 := Lib.hid (HR3.out.kept hb4)
                                            have HX4 := Lib.hid (own_kept HX3.out hb4)
                                            have HB4 := Lib.hid (HB3.out.kept hb4)
                                            have HCk := Lib.hid (chk_r HY2.out HF.out A2 n c2 W4' (own_reads HX4.out) hc2)
                                            clear hb4 HR3 HX3 HB3 HRs cB lB
                                            have cB := HB4.out.cell
                                            have lB := HB4.out.lt
                                            go_wp2_with fail
                                            refine HCk.out.mono ?_
                                            rintro e W5' ⟨rfl, hb5⟩
                                            have HR5 := Lib.hid (HR4.out.kept hb5)
                                            have HX5 := Lib.hid (own_kept HX4.out hb5)
                                            have HB5 := Lib.hid (HB4.out.kept hb5)
                                            clear hb5 HR4 HX4 HB4 HCk cB lB
                                            have hu16 : (usL x').length ≤ 16 := by have h1 := us_len_le x'; have h2 := HRj.out.by_.len; rw [HLn.out] at h2; omega
                                            have hnn := HN2.out
                                            have hw1 : IntKind.i64.wrap (((usL x').length : Int) + 1) = ((usL x2).length : Int) := by rw [IntKind.wrap_i64]; omega
                                            have hw2 : wrap64 (((usL x').length : Int) + 1) = ((usL x2).length : Int) := by unfold wrap64; omega
                                            clear hnn
                                            have cB := HB5.out.cell
                                            have lB := HB5.out.lt
                                            have cX := HR5.out.bX.cell
                                            have fX := HR5.out.bX.frozen
                                            have lX := HR5.out.bX.lt
                                            go_wp2_with fail
                                            go_roundw
                                            case rel =>
                                              refine ⟨j + 1, x2, A2, c2, by omega, by go_num, rfl, ?_, put5_blk HR5.out.bX, row_put5 HX5.out HR5.out.bX (by decide), hc2, HY2.out.congr fun m _ => (HPt.out m).symm, ?_⟩
                                              · rw [HN2.out, HUj.out, HTk.out]
                                                omega
                                              · exact (((((HR5.out.ex.set_in (.inl (by simp)) _).set_in (.inl (by simp)) _).set_in (.inl (by simp)) _).set_in (.inl (by simp)) _).set_in (.inl (by simp)) _)
                                            case measure => simp [intOf]; omega
                                        · skip
                                          as_aux_lemma =>
                                            have hzd : decide (ks[j] = (k : Int)) = false := decide_eq_false hz
                                            have HPs := Lib.hid (fun m => pend_skip (fs := fs) (show ks.getD j 0 ≠ (k : Int) by rw [hgd]; exact hz) m)
                                            rw [if_neg hz] at HTk
                                            obtain ⟨kz, hkz⟩ : ∃ kz, ks[j] = kz := ⟨_, rfl⟩
                                            rw [hkz] at z4 hz hzd
                                            have hzb : (kz == (k : Int)) = false := by simpa using hz
                                            obtain ⟨nm, hnm⟩ : ∃ nm, (a.m[fs[j]]).n = nm := ⟨_, rfl⟩
                                            rw [hnm] at z0
                                            subst eV
                                            subst eP
                                            clear kb kb2 hgd hgf hbyF hnm hkz
                                            go_wp2_with fail
                                            go_roundw
                                            case rel =>
                                              have h := HRj.out.kept (show Below wr.heap.size wr (wr.alloc (.cells #[.string nm, .int .i64 0, .int .i64 100000, .int .i64 1] 90)) from (Below.refl _ _).alloc (Nat.le_refl _) _)
                                              refine ⟨j + 1, x', Ax', cx', by omega, by go_num, rfl, ?_, h.bX, h.rX, h.cX, h.by_.congr fun m _ => (HPs.out m).symm, h.ex⟩
                                              rw [HUj.out, HTk.out]
                                              omega
                                            case measure => simp [intOf]; omega
                                    · skip
                                      as_aux_lemma =>
                                        obtain rfl : j = fs.length := by omega
                                        go_wp2_with fail
                                        go_roundw
                                        case rel =>
                                          refine ⟨k + 1, x', Ax', cx', by omega, by go_num, rfl, ?_, HRj.out.bX, HRj.out.rX, HRj.out.cX, HRj.out.by_.congr fun i _ => pend_end fs ks k i, HRj.out.ex⟩
                                          rw [HUj.out, HUs2.out, List.take_of_length_le (by rw [HKl.out]; exact Nat.le_refl _), Nat.add_assoc]
                                        case measure => simp [intOf]; omega
                                · skip
                                  as_aux_lemma =>
                                    obtain rfl : k = no := by omega
                                    have hfin : (usL x').length = (usL x).length + fs.length := by rw [HUk.out, HUn.out]
                                    have HFi := Lib.hid hfin
                                    have HLw : Hid (Below w.heap.size w wr) := Lib.hid (HI0.out.low.trans (HR.out.ex.lows HI0.out.low.size (fun q hq => by simp at hq; omega)))
                                    clear hfin
                                    go_wp2_with fail
                                    go_meet
                                    case rel => exact ⟨by rw [HFi.out], HLw.out⟩
                          case rest =>
                            as_aux_lemma =>
                              rename World => W10
                              obtain ⟨rfl, hb10⟩ := hcut
                              have HL10 := Lib.hid hb10
                              have hw1 : IntKind.i64.wrap (((usL x).length : Int) + (fs.length : Int)) = (((usL x).length + fs.length : Nat) : Int) := by rw [IntKind.wrap_i64]; omega
                              have hw2 : wrap64 (((usL x).length : Int) + (fs.length : Int)) = (((usL x).length + fs.length : Nat) : Int) := by unfold wrap64; omega
                              clear hb10
                              go_wp2_with fail
                              refine (HAw.out _ HL10.out).mono ?_
                              rintro e y1 ⟨rfl, hb⟩
                              have HL11 := Lib.hid (HL10.out.trans (hb.mono HL10.out.size))
                              clear hb
                              go_wp2_with fail
                              go_ret
                              exact ⟨rfl, HL11.out⟩
                      · skip
                        as_aux_lemma =>
                          have hfl : 0 < fs.length := by
                            rcases Nat.eq_zero_or_pos fs.length with h | h
                            · exact absurd (List.eq_nil_of_length_eq_zero (by rw [vmF_len]; exact h)) hne
                            · exact h
                          have hfI : (0 : Int) < (fs.length : Int) := by omega
                          have HL7 := Lib.hid (HI6.out.low.trans (hb7.mono hs6))
                          clear hb7 hne HPl
                          go_wp2_with fail
                          refine (HAw.out _ HL7.out).mono ?_
                          rintro e y0 ⟨rfl, hb⟩
                          have HL8 := Lib.hid (HL7.out.trans (hb.mono HL7.out.size))
                          clear hb
                          go_wp2_with fail
                          go_ret
                          exact ⟨rfl, HL8.out⟩
          · skip
            as_aux_lemma =>
              have hOb : (outE os == 0) = false := by simpa using hOe
              clear hM hnm hl hO hlo hs hF hE hso
              have HL : Hid (Below w.heap.size w (w.alloc (.cells #[.slice A n c, .int .i64 a.lo, .int .i64 a.hi, .int .i64 a.cur, .int .i64 a.lim] 26))) := Lib.hid ((Below.refl _ _).alloc (Nat.le_refl _) _)
              have HA : Hid (Blk (w.alloc (.cells #[.slice A n c, .int .i64 a.lo, .int .i64 a.hi, .int .i64 a.cur, .int .i64 a.lim] 26)) w.heap.size 26 #[.slice A n c, .int .i64 a.lo, .int .i64 a.hi, .int .i64 a.cur, .int .i64 a.lim]) := Lib.hid (Blk.new _ _ _)
              go_enter Tryz.func5, Tryz.ntmps5
              go_wp2_with fail
              refine (HSh.out _ HL.out).mono ?_
              rintro e w1 ⟨rfl, hb⟩
              replace HL := Lib.hid (HL.out.trans (hb.mono HL.out.size))
              replace HA := Lib.hid (HA.out.kept hb)
              clear hb
              have cA := HA.out.cell
              have lA := HA.out.lt
              go_wp2_with fail
              clear cA lA
              refine (HCk.out _ HL.out).mono ?_
              rintro e w1 ⟨rfl, hb⟩
              replace HL := Lib.hid (HL.out.trans (hb.mono HL.out.size))
              replace HA := Lib.hid (HA.out.kept hb)
              clear hb
              have cA := HA.out.cell
              have lA := HA.out.lt
              go_wp2_with fail
              clear cA lA
              refine (HSo.out _ HL.out).mono ?_
              rintro e w1 ⟨rfl, hb⟩
              replace HL := Lib.hid (HL.out.trans (hb.mono HL.out.size))
              replace HA := Lib.hid (HA.out.kept hb)
              clear hb
              have cA := HA.out.cell
              have lA := HA.out.lt
              go_wp2_with fail
              clear cA lA
              refine (HCo.out _ HL.out).mono ?_
              rintro e w1 ⟨rfl, hb⟩
              replace HL := Lib.hid (HL.out.trans (hb.mono HL.out.size))
              replace HA := Lib.hid (HA.out.kept hb)
              clear hb
              have cA := HA.out.cell
              have lA := HA.out.lt
              go_wp2_with fail
              clear cA lA
              refine (HAw.out _ HL.out).mono ?_
              rintro e w1 ⟨rfl, hb⟩
              replace HL := Lib.hid (HL.out.trans (hb.mono HL.out.size))
              clear hb
              go_wp2_with fail
              go_ret
              exact ⟨rfl, HL.out⟩
        · skip
          as_aux_lemma =>
            have hd4 : decide ((4 : Int) < (no : Int)) = true := by simp; omega
            have hd4' : (4 : Int) < (no : Int) := by omega
            clear hM hnm hl hO hlo hs hF hE h4
            generalize (decide (no ≤ 4) || no == 7) = b7 at *
            cases b7 with
            | true =>
              have HL : Hid (Below w.heap.size w (w.alloc (.cells #[.slice A n c, .int .i64 a.lo, .int .i64 a.hi, .int .i64 a.cur, .int .i64 a.lim] 26))) := Lib.hid ((Below.refl _ _).alloc (Nat.le_refl _) _)
              have HA : Hid (Blk (w.alloc (.cells #[.slice A n c, .int .i64 a.lo, .int .i64 a.hi, .int .i64 a.cur, .int .i64 a.lim] 26)) w.heap.size 26 #[.slice A n c, .int .i64 a.lo, .int .i64 a.hi, .int .i64 a.cur, .int .i64 a.lim]) := Lib.hid (Blk.new _ _ _)
              go_enter Tryz.func5, Tryz.ntmps5
              go_wp2_with fail
              refine (HSh.out _ HL.out).mono ?_
              rintro e w1 ⟨rfl, hb⟩
              replace HL := Lib.hid (HL.out.trans (hb.mono HL.out.size))
              replace HA := Lib.hid (HA.out.kept hb)
              clear hb
              have cA := HA.out.cell
              have lA := HA.out.lt
              go_wp2_with fail
              clear cA lA
              refine (HCk.out _ HL.out).mono ?_
              rintro e w1 ⟨rfl, hb⟩
              replace HL := Lib.hid (HL.out.trans (hb.mono HL.out.size))
              replace HA := Lib.hid (HA.out.kept hb)
              clear hb
              have cA := HA.out.cell
              have lA := HA.out.lt
              go_wp2_with fail
              clear cA lA
              refine (HSo.out _ HL.out).mono ?_
              rintro e w1 ⟨rfl, hb⟩
              replace HL := Lib.hid (HL.out.trans (hb.mono HL.out.size))
              replace HA := Lib.hid (HA.out.kept hb)
              clear hb
              have cA := HA.out.cell
              have lA := HA.out.lt
              go_wp2_with fail
              clear cA lA
              refine (HAw.out _ HL.out).mono ?_
              rintro e w1 ⟨rfl, hb⟩
              replace HL := Lib.hid (HL.out.trans (hb.mono HL.out.size))
              clear hb
              go_wp2_with fail
              go_ret
              exact ⟨rfl, HL.out⟩
            | false =>
              have HL : Hid (Below w.heap.size w (w.alloc (.cells #[.slice A n c, .int .i64 a.lo, .int .i64 a.hi, .int .i64 a.cur, .int .i64 a.lim] 26))) := Lib.hid ((Below.refl _ _).alloc (Nat.le_refl _) _)
              have HA : Hid (Blk (w.alloc (.cells #[.slice A n c, .int .i64 a.lo, .int .i64 a.hi, .int .i64 a.cur, .int .i64 a.lim] 26)) w.heap.size 26 #[.slice A n c, .int .i64 a.lo, .int .i64 a.hi, .int .i64 a.cur, .int .i64 a.lim]) := Lib.hid (Blk.new _ _ _)
              go_enter Tryz.func5, Tryz.ntmps5
              go_wp2_with fail
              refine (HSh.out _ HL.out).mono ?_
              rintro e w1 ⟨rfl, hb⟩
              replace HL := Lib.hid (HL.out.trans (hb.mono HL.out.size))
              replace HA := Lib.hid (HA.out.kept hb)
              clear hb
              have cA := HA.out.cell
              have lA := HA.out.lt
              go_wp2_with fail
              clear cA lA
              refine (HCk.out _ HL.out).mono ?_
              rintro e w1 ⟨rfl, hb⟩
              replace HL := Lib.hid (HL.out.trans (hb.mono HL.out.size))
              replace HA := Lib.hid (HA.out.kept hb)
              clear hb
              have cA := HA.out.cell
              have lA := HA.out.lt
              go_wp2_with fail
              clear cA lA
              refine (HSo.out _ HL.out).mono ?_
              rintro e w1 ⟨rfl, hb⟩
              replace HL := Lib.hid (HL.out.trans (hb.mono HL.out.size))
              replace HA := Lib.hid (HA.out.kept hb)
              clear hb
              have cA := HA.out.cell
              have lA := HA.out.lt
              go_wp2_with fail
              clear cA lA
              refine (HAw.out _ HL.out).mono ?_
              rintro e w1 ⟨rfl, hb⟩
              replace HL := Lib.hid (HL.out.trans (hb.mono HL.out.size))
              clear hb
              go_wp2_with fail
              go_ret
              exact ⟨rfl, HL.out⟩
      · skip
        as_aux_lemma =>
          have hd8 : decide ((8 : Int) < (n : Int)) = true := by simp; omega
          have hd8' : (8 : Int) < (n : Int) := by omega
          clear hM hnm hl hO hlo hs hF hE HSo h8
          have HL : Hid (Below w.heap.size w (w.alloc (.cells #[.slice A n c, .int .i64 a.lo, .int .i64 a.hi, .int .i64 a.cur, .int .i64 a.lim] 26))) := Lib.hid ((Below.refl _ _).alloc (Nat.le_refl _) _)
          have HA : Hid (Blk (w.alloc (.cells #[.slice A n c, .int .i64 a.lo, .int .i64 a.hi, .int .i64 a.cur, .int .i64 a.lim] 26)) w.heap.size 26 #[.slice A n c, .int .i64 a.lo, .int .i64 a.hi, .int .i64 a.cur, .int .i64 a.lim]) := Lib.hid (Blk.new _ _ _)
          go_enter Tryz.func5, Tryz.ntmps5
          go_wp2_with fail
          refine (HSh.out _ HL.out).mono ?_
          rintro e w1 ⟨rfl, hb⟩
          replace HL := Lib.hid (HL.out.trans (hb.mono HL.out.size))
          replace HA := Lib.hid (HA.out.kept hb)
          clear hb
          have cA := HA.out.cell
          have lA := HA.out.lt
          go_wp2_with fail
          clear cA lA
          refine (HCk.out _ HL.out).mono ?_
          rintro e w1 ⟨rfl, hb⟩
          replace HL := Lib.hid (HL.out.trans (hb.mono HL.out.size))
          replace HA := Lib.hid (HA.out.kept hb)
          clear hb
          have cA := HA.out.cell
          have lA := HA.out.lt
          go_wp2_with fail
          clear cA lA
          refine (HAw.out _ HL.out).mono ?_
          rintro e w1 ⟨rfl, hb⟩
          replace HL := Lib.hid (HL.out.trans (hb.mono HL.out.size))
          clear hb
          go_wp2_with fail
          go_ret
          exact ⟨rfl, HL.out⟩
    · skip
      as_aux_lemma =>
        have hEb : (armE a == 0) = false := by simpa using hE
        clear hM hnm hl hO hlo hs hF HSo
        have HL : Hid (Below w.heap.size w (w.alloc (.cells #[.slice A n c, .int .i64 a.lo, .int .i64 a.hi, .int .i64 a.cur, .int .i64 a.lim] 26))) := Lib.hid ((Below.refl _ _).alloc (Nat.le_refl _) _)
        have HA : Hid (Blk (w.alloc (.cells #[.slice A n c, .int .i64 a.lo, .int .i64 a.hi, .int .i64 a.cur, .int .i64 a.lim] 26)) w.heap.size 26 #[.slice A n c, .int .i64 a.lo, .int .i64 a.hi, .int .i64 a.cur, .int .i64 a.lim]) := Lib.hid (Blk.new _ _ _)
        go_enter Tryz.func5, Tryz.ntmps5
        go_wp2_with fail
        refine (HSh.out _ HL.out).mono ?_
        rintro e w1 ⟨rfl, hb⟩
        replace HL := Lib.hid (HL.out.trans (hb.mono HL.out.size))
        replace HA := Lib.hid (HA.out.kept hb)
        clear hb
        have cA := HA.out.cell
        have lA := HA.out.lt
        go_wp2_with fail
        clear cA lA
        refine (HCk.out _ HL.out).mono ?_
        rintro e w1 ⟨rfl, hb⟩
        replace HL := Lib.hid (HL.out.trans (hb.mono HL.out.size))
        replace HA := Lib.hid (HA.out.kept hb)
        clear hb
        have cA := HA.out.cell
        have lA := HA.out.lt
        go_wp2_with fail
        clear cA lA
        refine (HAw.out _ HL.out).mono ?_
        rintro e w1 ⟨rfl, hb⟩
        replace HL := Lib.hid (HL.out.trans (hb.mono HL.out.size))
        clear hb
        go_wp2_with fail
        go_ret
        exact ⟨rfl, HL.out⟩
end Go.Proofs.YtafnebfchhmgcaaGreat
