/- Joined texts: Sh YH YI YJ YK YS YL. -/
import Derived.Shelf.Sort.Plain
import Derived.Test.YtphlojgmfkgeiaaGreatDoorProg
import Derived.Test.YtphlojgmfkgeiaaGreatDoorKb
import Derived.Test.YtphlojgmfkgeiaaGreatDoorKa
import Derived.RangeFuncNested
import Derived.RangeFuncBound
import Derived.RangeFuncCalls
import Derived.RangeFuncLeaves
import Derived.Shelf.Abstract
import Derived.Shelf.RegionOpen
import Derived.OwnWalkIn
import Derived.TacticsInMore
import Derived.LoopNIn
import Derived.LoopIn
import Derived.Sort.CutIn
import Derived.Maps.OwnIn
import Derived.Sort.OwnSortedInts
/-
  DERIVED: THE SHELF's CONTRACTS AT THIS DUMP, IN PLAIN WORDS (tools/lay-plain.mjs out of 'TryzShelf.lean', which tools/lay-shelf.mjs wrote): THE SAME DECLARATIONS UNDER THE SAME NAMES: 'import', 'namespace', 'open', 'def', 'theorem' AND NOTHING ELSE: no command of the shelf's: FOR A HAND-IN. Each laying: the table of numbers ('.._ren') and one theorem, a field a fact of the dump's own or the kernel's comparison; each contract: ONE APPLICATION.
-/
namespace Go.Proofs
open Go.Shelf
def Tryz.lays189_ren : Go.Shelf.Ren := ⟨fun | 189 => 154 | 125 => 186 | 257 => 185 | 128 => 216 | 129 => 217 | 294 => 207 | 295 => 208 | 296 => 209 | 297 => 210 | 298 => 211 | 299 => 212 | 216 => 213 | 300 => 214 | 301 => 215 | 328 => 224 | 329 => 225 | 330 => 226 | 331 => 227 | 332 => 228 | 215 => 229 | 343 => 236 | n => n, fun | 28 => 29 | 3 => 3 | 46 => 224 | 0 => 0 | 51 => 247 | 53 => 249 | 4 => 4 | 183 => 240 | 182 => 239 | 131 => 210 | 5 => 5 | 9 => 9 | 218 => 253 | 222 => 257 | 228 => 264 | 229 => 265 | n => n, fun | n => n⟩
theorem Tryz.lays189 : Go.Proofs.Lays.n189 Tryz.prog Tryz.lays189_ren := {
  mixed := by kernel_rfl
  f125 := Tryz.func186.trans (congrArg some (by kernel_rfl))
  f128 := Tryz.func216.trans (congrArg some (by kernel_rfl))
  f129 := Tryz.func217.trans (congrArg some (by kernel_rfl))
  f189 := Tryz.func154.trans (congrArg some (by kernel_rfl))
  f215 := Tryz.func229.trans (congrArg some (by kernel_rfl))
  f216 := Tryz.func213.trans (congrArg some (by kernel_rfl))
  f257 := Tryz.func185.trans (congrArg some (by kernel_rfl))
  f294 := Tryz.func207.trans (congrArg some (by kernel_rfl))
  f295 := Tryz.func208.trans (congrArg some (by kernel_rfl))
  f296 := Tryz.func209.trans (congrArg some (by kernel_rfl))
  f297 := Tryz.func210.trans (congrArg some (by kernel_rfl))
  f298 := Tryz.func211.trans (congrArg some (by kernel_rfl))
  f299 := Tryz.func212.trans (congrArg some (by kernel_rfl))
  f300 := Tryz.func214.trans (congrArg some (by kernel_rfl))
  f301 := Tryz.func215.trans (congrArg some (by kernel_rfl))
  f328 := Tryz.func224.trans (congrArg some (by kernel_rfl))
  f329 := Tryz.func225.trans (congrArg some (by kernel_rfl))
  f330 := Tryz.func226.trans (congrArg some (by kernel_rfl))
  f331 := Tryz.func227.trans (congrArg some (by kernel_rfl))
  f332 := Tryz.func228.trans (congrArg some (by kernel_rfl))
  f343 := Tryz.func236.trans (congrArg some (by kernel_rfl))
  t0 := Tryz.underlying0
  a0 := Tryz.isAgg0
  z0 := Tryz.sizeOf0
  v0 := Tryz.zeroValue0
  t3 := Tryz.underlying3
  a3 := Tryz.isAgg3
  z3 := Tryz.sizeOf3
  v3 := Tryz.zeroValue3
  t4 := Tryz.underlying4
  a4 := Tryz.isAgg4
  z4 := Tryz.sizeOf4
  v4 := Tryz.zeroValue4
  t5 := Tryz.underlying5
  a5 := Tryz.isAgg5
  z5 := Tryz.sizeOf5
  v5 := Tryz.zeroValue5
  t9 := Tryz.underlying9
  a9 := Tryz.isAgg9
  z9 := Tryz.sizeOf9
  v9 := Tryz.zeroValue9
  t28 := Tryz.underlying29
  a28 := Tryz.isAgg29
  z28 := Tryz.sizeOf29
  v28 := Tryz.zeroValue29
  t46 := Tryz.underlying224
  a46 := Tryz.isAgg224
  z46 := Tryz.sizeOf224
  v46 := Tryz.zeroValue224
  t51 := Tryz.underlying247
  a51 := Tryz.isAgg247
  z51 := Tryz.sizeOf247
  v51 := Tryz.zeroValue247
  t53 := Tryz.underlying249
  a53 := Tryz.isAgg249
  z53 := Tryz.sizeOf249
  v53 := Tryz.zeroValue249
  t131 := Tryz.underlying210
  a131 := Tryz.isAgg210
  z131 := Tryz.sizeOf210
  v131 := Tryz.zeroValue210
  t182 := Tryz.underlying239
  a182 := Tryz.isAgg239
  z182 := Tryz.sizeOf239
  v182 := Tryz.zeroValue239
  t183 := Tryz.underlying240
  a183 := Tryz.isAgg240
  z183 := Tryz.sizeOf240
  v183 := Tryz.zeroValue240
  t218 := Tryz.underlying253
  a218 := Tryz.isAgg253
  z218 := Tryz.sizeOf253
  v218 := Tryz.zeroValue253
  t222 := Tryz.underlying257
  a222 := Tryz.isAgg257
  z222 := Tryz.sizeOf257
  v222 := Tryz.zeroValue257
  t228 := Tryz.underlying264
  a228 := Tryz.isAgg264
  z228 := Tryz.sizeOf264
  v228 := Tryz.zeroValue264
  t229 := Tryz.underlying265
  a229 := Tryz.isAgg265
  z229 := Tryz.sizeOf265
  v229 := Tryz.zeroValue265 }
open Go.Sort Go.RowKit in
theorem Tryz.slices_Sort_int (blk off cap : Nat) (zs : List Int) (w : World) (hH : Holds (Value.int .i64) w blk off zs.toArray) (hblk : blk < w.heap.size) (hsz : zs.length < 4611686018427387904) :
    Calls Tryz.prog 154 #[.slice (some ⟨blk, off, none⟩) zs.length cap] w fun e w' =>
      e = .returned (.tuple #[]) ∧ ∃ n os, w' = grow (putRow (Value.int .i64) (Sort.ahead w n) blk off (zs.mergeSort fun x y => decide (x ≤ y)).toArray) os := Any.slices_Sort_int Tryz.lays189 blk off cap zs w hH hblk hsz
end Go.Proofs
/- Library: the first index at which a predicate holds. -/
namespace Go.Proofs.YtphlojgmfkgeiaaGreatDoor
open Go.RowKit Go.Sort
set_option linter.unusedSimpArgs false
set_option linter.unusedVariables false
attribute [local go_sem] cell_if frozen_if grow_cell
/-- A function value that answers p at all elements of a list; it leaves all that lay in w. -/
def Pred {α : Type} (P : Program) (g : Nat) (bs cap : Array Value) (enc : α → Value) (l : List α) (p : α → Bool) (w : World) : Prop :=
  ∀ W, Below w.heap.size w W → ∀ x ∈ l, Calls P g (bs ++ #[enc x] ++ cap) W fun e w' => e = .returned (.bool (p x)) ∧ Below W.heap.size W w'
/-- Function g is entered by a call. -/
def Enters (P : Program) (g : Nat) : Prop := ∀ args w, (callFunc g args).run P w = .ok (.enter g args) w
def idxP {α : Type} (p : α → Bool) : Nat → List α → Int
  | _, [] => -1
  | k, x :: r => if p x then k else idxP p (k + 1) r
theorem idxP_cons {α : Type} (p : α → Bool) (k : Nat) (x : α) (r : List α) : idxP p k (x :: r) = if p x then (k : Int) else idxP p (k + 1) r := rfl
theorem idxP_any {α : Type} (p : α → Bool) : ∀ (l : List α) (k : Nat), decide (0 ≤ idxP p k l) = l.any p
  | [], _ => rfl
  | x :: r, k => by
    rw [idxP_cons, List.any_cons]
    cases h : p x with
    | true => simp
    | false => simpa using idxP_any p r (k + 1)
theorem int_at {w : World} {B n : Nat} {A : Option Addr} {l : List Int} (h : Reads w B 1 A n (l.map (.int .i64))) : l.length = n ∧ ∀ k, (hk : k < l.length) → ∃ b o, A = some ⟨b, o, none⟩ ∧ b < B ∧ w.cell? ⟨b, o + k, none⟩ = some (.int .i64 l[k]) := by
  have hl : l.length = n := by simpa using h.1
  refine ⟨hl, fun k hk => ?_⟩
  obtain ⟨b, o, u, e, hb, hu, hc⟩ := h.at_ (k := k) (by omega)
  refine ⟨b, o, e, hb, ?_⟩
  rw [hc]
  simpa [hk] using hu.symm
theorem IndexFuncSw_any (g : Nat) (cap : Array Value) (B : Nat) (A : Option Addr) (n c : Nat) (l : List Sw) (p : Sw → Bool) (w : World) (hr : Reads w B 5 A n (sws l)) (hB : B ≤ w.heap.size) (hn : n ≤ 1000) (eg : Enters Tryz.prog g) (hp : Pred Tryz.prog g #[] cap (fun x => .agg #[.string x.n, .string x.k, .int .i64 x.a, .int .i64 x.b, .bool x.c]) l p w) :
    Calls Tryz.prog 189 #[.slice A n c, .func (.func g) #[] cap] w fun e w' => e = .returned (.int .i64 (idxP p 0 l)) ∧ Below w.heap.size w w' := by
  obtain ⟨hl, ha⟩ := sw_at hr
  have HL := Lib.hid hl
  have HA := Lib.hid ha
  have HP := Lib.hid hp
  unfold Enters at eg
  clear hl ha hp hr
  go_enter Tryz.func189, Tryz.ntmps189
  go_wp2_with fail
  go_loopw [8] (fun i wr => ∃ k : Nat, k ≤ n ∧ i = .int .i64 k ∧ idxP p 0 l = idxP p k (l.drop k) ∧ Below w.heap.size w wr) (fun i _ => n - (intOf i).toNat)
  case atStart => exact ⟨0, by omega, rfl, rfl, bl_⟩
  case round =>
    obtain ⟨k, hk, rfl, hf, hb⟩ := hrel
    have Hf := Lib.hid hf; clear hf
    have hs := hb.size
    by_cases hlt : k < n
    · have hkl : k < l.length := by rw [HL.out]; exact hlt
      have HX := HP.out wr hb l[k] (List.getElem_mem hkl)
      obtain ⟨b, o, eA, hbb, hz⟩ := HA.out k hkl
      have kb : ∀ i, wr.cell? ⟨b, i, none⟩ = w.cell? ⟨b, i, none⟩ := fun i => hb.cell (p := ⟨b, i, none⟩) (by simp; omega)
      simp only [← kb] at hz
      clear kb
      subst eA
      have Hd : Hid (l.drop k = l[k] :: l.drop (k + 1)) := List.drop_eq_getElem_cons hkl
      generalize l[k] = x at *
      (obtain ⟨z0, z1, z2, z3, z4⟩ := hz; obtain ⟨xn, xk, xa, xb, xc⟩ := x; dsimp only at z0 z1 z2 z3 z4 HX)
      cases hq : p ⟨xn, xk, xa, xb, xc⟩ with
      | true =>
        rw [hq] at HX
        have HXH := Lib.hid HX
        have HQ := Lib.hid hq
        clear HX hq
        go_wp2_with fail
        refine HXH.out.mono ?_
        rintro e w1 ⟨rfl, hb1⟩
        go_wp2_with fail
        go_ret
        exact ⟨by rw [Hf.out, Hd.out, idxP_cons, HQ.out]; rfl, bl_⟩
      | false =>
        rw [hq] at HX
        have HXH := Lib.hid HX
        have HQ := Lib.hid hq
        clear HX hq
        go_wp2_with fail
        refine HXH.out.mono ?_
        rintro e w1 ⟨rfl, hb1⟩
        go_wp2_with fail
        go_roundw
        case rel => exact ⟨k + 1, by omega, by go_num, by rw [Hf.out, Hd.out, idxP_cons, HQ.out]; rfl, bl_⟩
        case measure => simp [intOf]; omega
    · obtain rfl : k = n := by omega
      go_wp2_with fail
      go_ret
      exact ⟨by rw [Hf.out, List.drop_eq_nil_of_le (by rw [HL.out]; exact Nat.le_refl _)]; rfl, bl_⟩
theorem IndexFuncPm_any (g : Nat) (cap : Array Value) (B : Nat) (A : Option Addr) (n c : Nat) (l : List Pm) (p : Pm → Bool) (w : World) (hr : Reads w B 2 A n (pms l)) (hB : B ≤ w.heap.size) (hn : n ≤ 1000) (eg : Enters Tryz.prog g) (hp : Pred Tryz.prog g #[] cap (fun x => .agg #[.string x.n, .int .i64 x.s]) l p w) :
    Calls Tryz.prog 137 #[.slice A n c, .func (.func g) #[] cap] w fun e w' => e = .returned (.int .i64 (idxP p 0 l)) ∧ Below w.heap.size w w' := by
  obtain ⟨hl, ha⟩ := pm_at hr
  have HL := Lib.hid hl
  have HA := Lib.hid ha
  have HP := Lib.hid hp
  unfold Enters at eg
  clear hl ha hp hr
  go_enter Tryz.func137, Tryz.ntmps137
  go_wp2_with fail
  go_loopw [8] (fun i wr => ∃ k : Nat, k ≤ n ∧ i = .int .i64 k ∧ idxP p 0 l = idxP p k (l.drop k) ∧ Below w.heap.size w wr) (fun i _ => n - (intOf i).toNat)
  case atStart => exact ⟨0, by omega, rfl, rfl, bl_⟩
  case round =>
    obtain ⟨k, hk, rfl, hf, hb⟩ := hrel
    have Hf := Lib.hid hf; clear hf
    have hs := hb.size
    by_cases hlt : k < n
    · have hkl : k < l.length := by rw [HL.out]; exact hlt
      have HX := HP.out wr hb l[k] (List.getElem_mem hkl)
      obtain ⟨b, o, eA, hbb, hz⟩ := HA.out k hkl
      have kb : ∀ i, wr.cell? ⟨b, i, none⟩ = w.cell? ⟨b, i, none⟩ := fun i => hb.cell (p := ⟨b, i, none⟩) (by simp; omega)
      simp only [← kb] at hz
      clear kb
      subst eA
      have Hd : Hid (l.drop k = l[k] :: l.drop (k + 1)) := List.drop_eq_getElem_cons hkl
      generalize l[k] = x at *
      (obtain ⟨z0, z1⟩ := hz; obtain ⟨xn, xs⟩ := x; dsimp only at z0 z1 HX)
      cases hq : p ⟨xn, xs⟩ with
      | true =>
        rw [hq] at HX
        have HXH := Lib.hid HX
        have HQ := Lib.hid hq
        clear HX hq
        go_wp2_with fail
        refine HXH.out.mono ?_
        rintro e w1 ⟨rfl, hb1⟩
        go_wp2_with fail
        go_ret
        exact ⟨by rw [Hf.out, Hd.out, idxP_cons, HQ.out]; rfl, bl_⟩
      | false =>
        rw [hq] at HX
        have HXH := Lib.hid HX
        have HQ := Lib.hid hq
        clear HX hq
        go_wp2_with fail
        refine HXH.out.mono ?_
        rintro e w1 ⟨rfl, hb1⟩
        go_wp2_with fail
        go_roundw
        case rel => exact ⟨k + 1, by omega, by go_num, by rw [Hf.out, Hd.out, idxP_cons, HQ.out]; rfl, bl_⟩
        case measure => simp [intOf]; omega
    · obtain rfl : k = n := by omega
      go_wp2_with fail
      go_ret
      exact ⟨by rw [Hf.out, List.drop_eq_nil_of_le (by rw [HL.out]; exact Nat.le_refl _)]; rfl, bl_⟩
theorem IndexFuncI_any (g : Nat) (cap : Array Value) (B : Nat) (A : Option Addr) (n c : Nat) (l : List Int) (p : Int → Bool) (w : World) (hr : Reads w B 1 A n (List.map (Value.int .i64) l)) (hB : B ≤ w.heap.size) (hn : n ≤ 1000) (eg : Enters Tryz.prog g) (hp : Pred Tryz.prog g #[] cap (fun x => Value.int .i64 x) l p w) :
    Calls Tryz.prog 155 #[.slice A n c, .func (.func g) #[] cap] w fun e w' => e = .returned (.int .i64 (idxP p 0 l)) ∧ Below w.heap.size w w' := by
  obtain ⟨hl, ha⟩ := int_at hr
  have HL := Lib.hid hl
  have HA := Lib.hid ha
  have HP := Lib.hid hp
  unfold Enters at eg
  clear hl ha hp hr
  go_enter Tryz.func155, Tryz.ntmps155
  go_wp2_with fail
  go_loopw [8] (fun i wr => ∃ k : Nat, k ≤ n ∧ i = .int .i64 k ∧ idxP p 0 l = idxP p k (l.drop k) ∧ Below w.heap.size w wr) (fun i _ => n - (intOf i).toNat)
  case atStart => exact ⟨0, by omega, rfl, rfl, bl_⟩
  case round =>
    obtain ⟨k, hk, rfl, hf, hb⟩ := hrel
    have Hf := Lib.hid hf; clear hf
    have hs := hb.size
    by_cases hlt : k < n
    · have hkl : k < l.length := by rw [HL.out]; exact hlt
      have HX := HP.out wr hb l[k] (List.getElem_mem hkl)
      obtain ⟨b, o, eA, hbb, hz⟩ := HA.out k hkl
      have kb : ∀ i, wr.cell? ⟨b, i, none⟩ = w.cell? ⟨b, i, none⟩ := fun i => hb.cell (p := ⟨b, i, none⟩) (by simp; omega)
      simp only [← kb] at hz
      clear kb
      subst eA
      have Hd : Hid (l.drop k = l[k] :: l.drop (k + 1)) := List.drop_eq_getElem_cons hkl
      generalize l[k] = x at *
      skip
      cases hq : p x with
      | true =>
        rw [hq] at HX
        have HXH := Lib.hid HX
        have HQ := Lib.hid hq
        clear HX hq
        go_wp2_with fail
        refine HXH.out.mono ?_
        rintro e w1 ⟨rfl, hb1⟩
        go_wp2_with fail
        go_ret
        exact ⟨by rw [Hf.out, Hd.out, idxP_cons, HQ.out]; rfl, bl_⟩
      | false =>
        rw [hq] at HX
        have HXH := Lib.hid HX
        have HQ := Lib.hid hq
        clear HX hq
        go_wp2_with fail
        refine HXH.out.mono ?_
        rintro e w1 ⟨rfl, hb1⟩
        go_wp2_with fail
        go_roundw
        case rel => exact ⟨k + 1, by omega, by go_num, by rw [Hf.out, Hd.out, idxP_cons, HQ.out]; rfl, bl_⟩
        case measure => simp [intOf]; omega
    · obtain rfl : k = n := by omega
      go_wp2_with fail
      go_ret
      exact ⟨by rw [Hf.out, List.drop_eq_nil_of_le (by rw [HL.out]; exact Nat.le_refl _)]; rfl, bl_⟩
end Go.Proofs.YtphlojgmfkgeiaaGreatDoor
/- Library: Contains, ContainsFunc. -/
namespace Go.Proofs.YtphlojgmfkgeiaaGreatDoor
open Go.RowKit Go.Sort
set_option linter.unusedSimpArgs false
set_option linter.unusedVariables false
attribute [local go_sem] cell_if frozen_if grow_cell
theorem ContainsFuncSw_any (g : Nat) (cap : Array Value) (B : Nat) (A : Option Addr) (n c : Nat) (l : List Sw) (p : Sw → Bool) (w : World) (hr : Reads w B 5 A n (sws l)) (hB : B ≤ w.heap.size) (hn : n ≤ 1000) (eg : Enters Tryz.prog g) (hp : Pred Tryz.prog g #[] cap (fun x => .agg #[.string x.n, .string x.k, .int .i64 x.a, .int .i64 x.b, .bool x.c]) l p w) :
    Calls Tryz.prog 160 #[.slice A n c, .func (.func g) #[] cap] w fun e w' => e = .returned (.bool (l.any p)) ∧ Below w.heap.size w w' := by
  have HC := Lib.hid (IndexFuncSw_any g cap B A n c l p w hr hB hn eg hp)
  rw [← idxP_any p l 0]
  clear hp hr
  generalize idxP p 0 l = q at *
  go_enter Tryz.func160, Tryz.ntmps160
  go_wp2_with (go_at_call 189; refine HC.out.mono ?_; rintro e w1 ⟨rfl, hb1⟩)
  go_ret
  exact ⟨by first | rfl | (simp; done), hb1⟩
theorem ContainsFuncPm_any (g : Nat) (cap : Array Value) (B : Nat) (A : Option Addr) (n c : Nat) (l : List Pm) (p : Pm → Bool) (w : World) (hr : Reads w B 2 A n (pms l)) (hB : B ≤ w.heap.size) (hn : n ≤ 1000) (eg : Enters Tryz.prog g) (hp : Pred Tryz.prog g #[] cap (fun x => .agg #[.string x.n, .int .i64 x.s]) l p w) :
    Calls Tryz.prog 100 #[.slice A n c, .func (.func g) #[] cap] w fun e w' => e = .returned (.bool (l.any p)) ∧ Below w.heap.size w w' := by
  have HC := Lib.hid (IndexFuncPm_any g cap B A n c l p w hr hB hn eg hp)
  rw [← idxP_any p l 0]
  clear hp hr
  generalize idxP p 0 l = q at *
  go_enter Tryz.func100, Tryz.ntmps100
  go_wp2_with (go_at_call 137; refine HC.out.mono ?_; rintro e w1 ⟨rfl, hb1⟩)
  go_ret
  exact ⟨by first | rfl | (simp; done), hb1⟩
theorem ContainsFuncI_any (g : Nat) (cap : Array Value) (B : Nat) (A : Option Addr) (n c : Nat) (l : List Int) (p : Int → Bool) (w : World) (hr : Reads w B 1 A n (List.map (Value.int .i64) l)) (hB : B ≤ w.heap.size) (hn : n ≤ 1000) (eg : Enters Tryz.prog g) (hp : Pred Tryz.prog g #[] cap (fun x => Value.int .i64 x) l p w) :
    Calls Tryz.prog 85 #[.slice A n c, .func (.func g) #[] cap] w fun e w' => e = .returned (.bool (l.any p)) ∧ Below w.heap.size w w' := by
  have HC := Lib.hid (IndexFuncI_any g cap B A n c l p w hr hB hn eg hp)
  rw [← idxP_any p l 0]
  clear hp hr
  generalize idxP p 0 l = q at *
  go_enter Tryz.func85, Tryz.ntmps85
  go_wp2_with (go_at_call 155; refine HC.out.mono ?_; rintro e w1 ⟨rfl, hb1⟩)
  go_ret
  exact ⟨by first | rfl | (simp; done), hb1⟩
theorem IndexI_any (B : Nat) (A : Option Addr) (n c : Nat) (l : List Int) (z : Int) (w : World) (hr : Reads w B 1 A n (l.map (Value.int .i64))) (hn : n ≤ maxLen) :
    Calls Tryz.prog 156 #[.slice A n c, (Value.int .i64) z] w fun e w' => e = .returned (.int .i64 (idxP (fun x => z == x) 0 l)) ∧ w = w' := by
  unfold maxLen at hn
  have hl : l.length = n := by simpa using hr.1
  have HL := Lib.hid hl
  clear hl
  go_enter Tryz.func156, Tryz.ntmps156
  go_wp2_with fail
  go_loop [8] (fun i => ∃ k : Nat, k ≤ n ∧ i = .int .i64 k ∧ idxP (fun x => z == x) 0 l = idxP (fun x => z == x) k (l.drop k)) (fun i => n - (intOf i).toNat)
  case atStart => exact ⟨0, by omega, rfl, rfl⟩
  case round =>
    obtain ⟨k, hk, rfl, hf⟩ := hrel
    have Hf := Lib.hid hf; clear hf
    by_cases hlt : k < n
    · have hkl : k < l.length := by rw [HL.out]; exact hlt
      obtain ⟨b, o, u, rfl, hbb, hu, hc⟩ := hr.at_ hlt
      obtain rfl : u = (Value.int .i64) l[k] := by simpa [hkl] using hu.symm
      have Hd : Hid (l.drop k = l[k] :: l.drop (k + 1)) := List.drop_eq_getElem_cons hkl
      clear hu
      generalize l[k] = x at *
      cases hq : (z == x) with
      | true =>
        go_wp2_with fail
        go_ret
        exact ⟨by rw [Hf.out, Hd.out, idxP_cons, if_pos hq]; rfl, rfl⟩
      | false =>
        go_wp2_with fail
        go_round
        case rel => exact ⟨k + 1, by omega, by go_num, by rw [Hf.out, Hd.out, idxP_cons, if_neg (by rw [hq]; exact Bool.false_ne_true)]⟩
        case measure => simp [intOf]; omega
    · obtain rfl : k = n := by omega
      go_wp2_with fail
      go_ret
      exact ⟨by rw [Hf.out, List.drop_eq_nil_of_le (by rw [HL.out]; exact Nat.le_refl _)]; rfl, rfl⟩
theorem IndexW_any (B : Nat) (A : Option Addr) (n c : Nat) (l : List ByteArray) (z : ByteArray) (w : World) (hr : Reads w B 1 A n (l.map Value.string)) (hn : n ≤ maxLen) :
    Calls Tryz.prog 184 #[.slice A n c, Value.string z] w fun e w' => e = .returned (.int .i64 (idxP (fun x => z.toList == x.toList) 0 l)) ∧ w = w' := by
  unfold maxLen at hn
  have hl : l.length = n := by simpa using hr.1
  have HL := Lib.hid hl
  clear hl
  go_enter Tryz.func184, Tryz.ntmps184
  go_wp2_with fail
  go_loop [8] (fun i => ∃ k : Nat, k ≤ n ∧ i = .int .i64 k ∧ idxP (fun x => z.toList == x.toList) 0 l = idxP (fun x => z.toList == x.toList) k (l.drop k)) (fun i => n - (intOf i).toNat)
  case atStart => exact ⟨0, by omega, rfl, rfl⟩
  case round =>
    obtain ⟨k, hk, rfl, hf⟩ := hrel
    have Hf := Lib.hid hf; clear hf
    by_cases hlt : k < n
    · have hkl : k < l.length := by rw [HL.out]; exact hlt
      obtain ⟨b, o, u, rfl, hbb, hu, hc⟩ := hr.at_ hlt
      obtain rfl : u = Value.string l[k] := by simpa [hkl] using hu.symm
      have Hd : Hid (l.drop k = l[k] :: l.drop (k + 1)) := List.drop_eq_getElem_cons hkl
      clear hu
      generalize l[k] = x at *
      cases hq : (z.toList == x.toList) with
      | true =>
        go_wp2_with fail
        go_ret
        exact ⟨by rw [Hf.out, Hd.out, idxP_cons, if_pos hq]; rfl, rfl⟩
      | false =>
        go_wp2_with fail
        go_round
        case rel => exact ⟨k + 1, by omega, by go_num, by rw [Hf.out, Hd.out, idxP_cons, if_neg (by rw [hq]; exact Bool.false_ne_true)]⟩
        case measure => simp [intOf]; omega
    · obtain rfl : k = n := by omega
      go_wp2_with fail
      go_ret
      exact ⟨by rw [Hf.out, List.drop_eq_nil_of_le (by rw [HL.out]; exact Nat.le_refl _)]; rfl, rfl⟩
theorem idx_hasI (l : List Int) (z : Int) : decide (0 ≤ idxP (fun x => z == x) 0 l) = hasI l z := by
  rw [idxP_any, hasI, List.contains_eq_any_beq]
theorem idx_hasW (l : List ByteArray) (z : ByteArray) : decide (0 ≤ idxP (fun x => z.toList == x.toList) 0 l) = hasW l z := by
  rw [idxP_any, hasW]
  congr 1
  funext x
  exact BEq.comm
theorem ContainsI_any (B : Nat) (A : Option Addr) (n c : Nat) (l : List Int) (z : Int) (w : World) (hr : Reads w B 1 A n (l.map (Value.int .i64))) (hn : n ≤ maxLen) :
    Calls Tryz.prog 89 #[.slice A n c, (Value.int .i64) z] w fun e w' => e = .returned (.bool (hasI l z)) ∧ w = w' := by
  have HC := Lib.hid (IndexI_any B A n c l z w hr hn)
  rw [← idx_hasI]
  clear hr
  generalize idxP _ 0 l = q at *
  go_enter Tryz.func89, Tryz.ntmps89
  go_wp2_with (go_at_call 156; refine HC.out.mono ?_; rintro e w1 ⟨rfl, rfl⟩)
  go_ret
  exact ⟨by first | rfl | (simp; done), rfl⟩
theorem ContainsW_any (B : Nat) (A : Option Addr) (n c : Nat) (l : List ByteArray) (z : ByteArray) (w : World) (hr : Reads w B 1 A n (l.map Value.string)) (hn : n ≤ maxLen) :
    Calls Tryz.prog 152 #[.slice A n c, Value.string z] w fun e w' => e = .returned (.bool (hasW l z)) ∧ w = w' := by
  have HC := Lib.hid (IndexW_any B A n c l z w hr hn)
  rw [← idx_hasW]
  clear hr
  generalize idxP _ 0 l = q at *
  go_enter Tryz.func152, Tryz.ntmps152
  go_wp2_with (go_at_call 184; refine HC.out.mono ?_; rintro e w1 ⟨rfl, rfl⟩)
  go_ret
  exact ⟨by first | rfl | (simp; done), rfl⟩
end Go.Proofs.YtphlojgmfkgeiaaGreatDoor
/- Neighbours: an iterator over the switches. -/
namespace Go.Proofs.YtphlojgmfkgeiaaGreatDoor
open Go.RowKit Go.Sort Go.Shelf
set_option linter.unusedSimpArgs false
set_option linter.unusedVariables false
attribute [local go_sem] cell_if frozen_if grow_cell
attribute [local go_sem] Oper.semAt_some
theorem grown_of_below {w w' : World} (h : Below w.heap.size w w') : w.grownBy w' none := ⟨h.os, h.tape, h.output, h.size, fun k hk _ => h.block k hk⟩
theorem neighbours_any (A0 A1 A2 : Option Addr) (n0 n1 n2 c0 c1 c2 : Nat) (i : Int) (all : Bool) (w : World) :
    Calls Tryz.prog 157 #[.agg #[.slice A0 n0 c0, .slice A1 n1 c1, .slice A2 n2 c2], .int .i64 i, .bool all] w fun e w' => e = .returned (.func (.func 187) #[] #[.pointer (some ⟨w.heap.size, 0, none⟩), .pointer (some ⟨w.heap.size + 1 + 1, 0, none⟩), .pointer (some ⟨w.heap.size + 1, 0, none⟩)]) ∧ ((w.alloc (.cells #[.slice A0 n0 c0, .slice A1 n1 c1, .slice A2 n2 c2] 41)).alloc (.cells #[.int .i64 i] 3)).alloc (.cells #[.bool all] 4) = w' := by
  go_enter Tryz.func157, Tryz.ntmps157
  go_wp2
  go_ret
  exact ⟨rfl, rfl⟩
/-- What has come when k switches are over. -/
def nbTo (l : List Sw) (all : Bool) (c : Int) (k : Nat) : List Int := (l.take k).flatMap (nbSw all c)
theorem nbTo_succ {l : List Sw} {all : Bool} {c : Int} {k : Nat} (hk : k < l.length) : nbTo l all c (k + 1) = nbTo l all c k ++ nbSw all c l[k] := by
  rw [nbTo, List.take_succ_eq_append_getElem hk, List.flatMap_append]; simp [nbTo]
theorem nbSw_len (all : Bool) (c : Int) (x : Sw) : (nbSw all c x).length ≤ 2 := by
  unfold nbSw; split <;> split <;> simp
theorem nbTo_len (l : List Sw) (all : Bool) (c : Int) : ∀ k, (nbTo l all c k).length ≤ 2 * k
  | 0 => by simp [nbTo]
  | k + 1 => by
    rcases Nat.lt_or_ge k l.length with h | h
    · rw [nbTo_succ h, List.length_append]
      have := nbTo_len l all c k
      have := nbSw_len all c l[k]
      omega
    · have e : nbTo l all c (k + 1) = nbTo l all c k := by
        unfold nbTo; rw [List.take_of_length_le (by omega), List.take_of_length_le (by omega)]
      rw [e]
      have := nbTo_len l all c k
      omega
theorem nbTo_all (l : List Sw) (all : Bool) (c : Int) : nbTo l all c l.length = nbrs l all c := by simp [nbTo, nbrs]
/-- What a round keeps: all below n₀; whatever holds no ints, but for block bo; block g. -/
structure KpN (n₀ bo g : Nat) (W W' : World) : Prop where
  low : Below n₀ W W'
  blk : ∀ k t c, t ≠ 3 → k ≠ bo → Blk W k t c → Blk W' k t c
  sec : W'.heap[g]? = W.heap[g]?
theorem KpN.t {n₀ bo g : Nat} {A B C : World} (h : KpN n₀ bo g A B) (k : KpN n₀ bo g B C) : KpN n₀ bo g A C :=
  ⟨h.low.trans k.low, fun i t c ht hi hb => k.blk i t c ht hi (h.blk i t c ht hi hb), k.sec.trans h.sec⟩
theorem KpN.b {n₀ bo g : Nat} {w : World} (hn : n₀ ≤ w.heap.size) (hg : g < w.heap.size) (W : World) (l : Nat) (o o' : Obj) (hl : w.heap.size ≤ l) (h : W.heap[l]? = some o) (h1 : o.isCells = false) (h2 : o.isWalk = false) : KpN n₀ bo g W (W.putObj l o') :=
  ⟨belowK_b hn W l o o' hl h h1 h2, fun k t c _ _ hb => by
    by_cases hk : k = l
    · subst hk
      rw [show W.heap[k]? = _ from hb] at h
      cases h
      cases h1
    · exact (World.putObj_heap_other hk).trans hb, World.putObj_heap_other (by omega)⟩
theorem KpN.of {n₀ bo g : Nat} {A B : World} (hn : n₀ ≤ A.heap.size) (hg : g < A.heap.size) (h : Below A.heap.size A B) : KpN n₀ bo g A B :=
  ⟨h.mono hn, fun _ _ _ _ _ hb => hb.kept h, h.block g hg⟩
def intV (z : Int) : Array Value := #[.int .i64 z]
set_option maxRecDepth 100000 in
set_option maxHeartbeats 4000000 in
theorem nb_stops (n g1 g2 g3 bo n₀ : Nat) (A0 A1 A2 : Option Addr) (n0 n1 n2 c0 c1 c2 : Nat) (y : Yd) (c : Int) (all : Bool) (w : World) (hn : 3 ≤ n) (hY : YdAt w n₀ A0 A1 A2 n0 n1 n2 y) (h0 : n₀ ≤ w.heap.size) (hn1 : n1 ≤ 9) (hb1 : g1 ≠ bo) (hb3 : g3 ≠ bo) (hbo : bo < w.heap.size)
    (hp : Blk w g1 41 #[.slice A0 n0 c0, .slice A1 n1 c1, .slice A2 n2 c2]) (hs : Blk w g2 3 #[.int .i64 c]) (ha : Blk w g3 4 #[.bool all]) :
    SeqStopsK Fence.wide n Tryz.prog 187 #[.pointer (some ⟨g1, 0, none⟩), .pointer (some ⟨g3, 0, none⟩), .pointer (some ⟨g2, 0, none⟩)] intV (KpN n₀ bo g2) (fun xs => xs = nbrs y.w all c) (fun _ => True) 18 w := fun l J Jx W hW hJ hJx hR hJ0 => by
  obtain ⟨hl, hat⟩ := sw_at hY.hw
  have HL := Lib.hid hl
  have HA := Lib.hid hat
  have b1 := hp.kept hW
  have b2 := hs.kept hW
  have b3 := ha.kept hW
  have v1 := b1.cell
  have hnW : n₀ ≤ W.heap.size := Nat.le_trans h0 hW.size
  have hboW : bo < W.heap.size := Nat.lt_of_lt_of_le hbo hW.size
  have hWl := Lib.hid (hW.mono h0)
  have l1 := b1.lt
  have l2 := b2.lt
  have l3 := b3.lt
  clear hl hat hY hp hs ha hW
  refine callsIn_of_wp Tryz.func187 rfl trivial ?_ rfl
  simp only [Tryz.ntmps187, List.size_toArray, List.length_cons, List.length_nil, Nat.reduceAdd, Nat.reduceSub, Array.replicate_succ, Array.replicate_zero, List.push_toArray, List.append_toArray, List.nil_append, List.cons_append]
  gi_wp2
  gi_loopw [11] (fun i wr => ∃ k : Nat, k ≤ n1 ∧ i = .int .i64 k ∧ J (nbTo y.w all c k) wr ∧ KpN n₀ bo g2 W wr ∧ W.heap.size ≤ wr.heap.size) (fun i _ => n1 - (intOf i).toNat)
  case atStart => exact ⟨0, Nat.zero_le _, rfl, hJ0, ⟨Below.refl _ _, fun _ _ _ _ _ h => h, rfl⟩, Nat.le_refl _⟩
  case round =>
    obtain ⟨k, hk, rfl, hJk, hkp, hsz⟩ := hrel
    have q1 := hkp.blk g1 _ _ (by decide) hb1 b1
    have q2 : Blk wr g2 3 #[.int .i64 c] := hkp.sec.trans b2
    have q3 := hkp.blk g3 _ _ (by decide) hb3 b3
    clear v1
    by_cases hlt : k < n1
    · have hkl : k < y.w.length := by rw [HL.out]; exact hlt
      obtain ⟨b, o, eA, hbb, z0, z1, z2, z3, z4⟩ := HA.out k hkl
      have kb : ∀ i, wr.cell? ⟨b, i, none⟩ = w.cell? ⟨b, i, none⟩ := fun i => (hWl.out.trans hkp.low).cell (p := ⟨b, i, none⟩) hbb
      rw [← kb] at z0 z1 z2 z3 z4
      clear kb
      subst eA
      have HS := Lib.hid (nbTo_succ (all := all) (c := c) hkl)
      have hlen := nbTo_len y.w all c k
      generalize y.w[k] = x at *
      obtain ⟨xn, xk, xa, xb, xc⟩ := x
      dsimp only at z0 z1 z2 z3 z4
      gi_upto_region 2 with fail
      gi_cut [6] from 13 (fun s6 wx => s6 = .pointer (some ⟨wr.heap.size, 0, none⟩) ∧ Blk wx wr.heap.size 70 #[.string xn, .string xk, .int .i64 xa, .int .i64 xb, .bool xc] ∧ Below wr.heap.size wr wx)
      case first =>
        gi_wp2
        gi_meet
        exact ⟨rfl, bk_, bl_⟩
      case rest =>
        obtain ⟨rfl, bx, hb⟩ := hcut
        have q2c := q2.kept hb
        have q3c := q3.kept hb
        have hJc : J (nbTo y.w all c k) wc := hJ _ wr wc none hJk (grown_of_below hb) (fun r e => by cases e)
        have hkc : KpN n₀ bo g2 W wc := hkp.t (KpN.of (Nat.le_trans hnW hsz) q2.lt hb)
        have hszc : W.heap.size ≤ wc.heap.size := Nat.le_trans hsz hb.size
        have HBX := Lib.hid bx
        have cx := bx.cell
        have c3 := q3c.cell 0
        clear bx hb hJk hkp q1 q2 q3 z0 z1 z2 z3 z4 b1 hJ
        gi_upto_region 3 with fail
        gi_cut [7] from 13 (fun s7 wx => s7 = .bool (joinsB ⟨xn, xk, xa, xb, xc⟩ all) ∧ wx = wc)
        case first =>
          simp at c3
          cases h0 : (xk.toList == [101, 97, 114, 116, 104]) <;> cases xc <;> cases all <;> cases h1 : (xk.toList == [98, 114, 101, 97, 107, 101, 114])
          all_goals
            gi_wp2
            gi_meet
            exact ⟨by unfold joinsB earthL breakerL; simp [h0, h1], rfl⟩
        case rest =>
          obtain ⟨rfl, rfl⟩ := hcut
          unfold nbSw at HS
          dsimp only at HS
          have lX := HBX.out.lt
          have hne : wr.heap.size ≠ bo := by omega
          generalize joinsB ⟨xn, xk, xa, xb, xc⟩ all = q at *
          have c2 := q2c.cell 0
          simp at c2
          cases q with
          | false =>
            (gi_wp2; (try (refine ⟨fun _ h => (by cases h), ?_⟩; gi_wp2)); (try (refine ⟨fun _ h => (by cases h), ?_⟩; gi_wp2)))
            go_roundw
            case rel => exact ⟨k + 1, by omega, by go_num, by rw [HS.out]; simpa using hJc, hkc, hszc⟩
            case measure => simp [intOf]; omega
          | true =>
            cases hpa : (xa == c) with
            | false =>
              cases hpb : (xb == c) with
              | false =>
                (gi_wp2; (try (refine ⟨fun _ h => (by cases h), ?_⟩; gi_wp2)); (try (refine ⟨fun _ h => (by cases h), ?_⟩; gi_wp2)))
                go_roundw
                case rel => exact ⟨k + 1, by omega, by go_num, by rw [HS.out, hpa, hpb]; simpa using hJc, hkc, hszc⟩
                case measure => simp [intOf]; omega
              | true =>
                obtain ⟨fn, tmps, assign, body, hy, hR1⟩ := hR _ xa _ hJc (by omega)
                dsimp only [intV] at hy
                (gi_wp2; (try (refine ⟨fun _ h => (by cases h), ?_⟩; gi_wp2)); (try (refine ⟨fun _ h => (by cases h), ?_⟩; gi_wp2)))
                refine ⟨(fun _ => by omega), hR1.mono ?_⟩
                rintro e W3 (⟨rfl, hJ3, hk3⟩ | ⟨rfl, hJx3⟩)
                · (gi_wp2; (try (refine ⟨fun _ h => (by cases h), ?_⟩; gi_wp2)); (try (refine ⟨fun _ h => (by cases h), ?_⟩; gi_wp2)))
                  go_roundw
                  case rel => exact ⟨k + 1, by omega, by go_num, by rw [HS.out, hpa, hpb]; simpa using hJ3, hkc.t hk3, Nat.le_trans hszc hk3.low.size⟩
                  case measure => simp [intOf]; omega
                · (gi_wp2; (try (refine ⟨fun _ h => (by cases h), ?_⟩; gi_wp2)); (try (refine ⟨fun _ h => (by cases h), ?_⟩; gi_wp2)))
                  refine bodyPost_ret (results_none rfl _ _ _) rfl ?_
                  exact ⟨⟨_, rfl⟩, .inr ⟨_, trivial, hJx3⟩⟩
            | true =>
              obtain ⟨fn, tmps, assign, body, hy, hR1⟩ := hR _ xb _ hJc (by omega)
              dsimp only [intV] at hy
              cases hpb : (xb == c) with
              | false =>
                (gi_wp2; (try (refine ⟨fun _ h => (by cases h), ?_⟩; gi_wp2)); (try (refine ⟨fun _ h => (by cases h), ?_⟩; gi_wp2)))
                refine ⟨(fun _ => by omega), hR1.mono ?_⟩
                rintro e W3 (⟨rfl, hJ3, hk3⟩ | ⟨rfl, hJx3⟩)
                · have bx3 := hk3.blk _ _ _ (by decide) hne HBX.out
                  have cx3 := bx3.cell
                  have c23 := (show Blk W3 g2 _ _ from hk3.sec.trans q2c).cell 0
                  simp at c23
                  (gi_wp2; (try (refine ⟨fun _ h => (by cases h), ?_⟩; gi_wp2)); (try (refine ⟨fun _ h => (by cases h), ?_⟩; gi_wp2)))
                  go_roundw
                  case rel => exact ⟨k + 1, by omega, by go_num, by rw [HS.out, hpa, hpb]; simpa using hJ3, hkc.t hk3, Nat.le_trans hszc hk3.low.size⟩
                  case measure => simp [intOf]; omega
                · (gi_wp2; (try (refine ⟨fun _ h => (by cases h), ?_⟩; gi_wp2)); (try (refine ⟨fun _ h => (by cases h), ?_⟩; gi_wp2)))
                  refine bodyPost_ret (results_none rfl _ _ _) rfl ?_
                  exact ⟨⟨_, rfl⟩, .inr ⟨_, trivial, hJx3⟩⟩
              | true =>
                (gi_wp2; (try (refine ⟨fun _ h => (by cases h), ?_⟩; gi_wp2)); (try (refine ⟨fun _ h => (by cases h), ?_⟩; gi_wp2)))
                refine ⟨(fun _ => by omega), hR1.mono ?_⟩
                rintro e W3 (⟨rfl, hJ3, hk3⟩ | ⟨rfl, hJx3⟩)
                · have bx3 := hk3.blk _ _ _ (by decide) hne HBX.out
                  have cx3 := bx3.cell
                  have c23 := (show Blk W3 g2 _ _ from hk3.sec.trans q2c).cell 0
                  simp at c23
                  clear hy
                  obtain ⟨fn2, tmps2, assign2, body2, hy2, hR2⟩ := hR _ xa _ hJ3 (by simp; omega)
                  dsimp only [intV] at hy2
                  (gi_wp2; (try (refine ⟨fun _ h => (by cases h), ?_⟩; gi_wp2)); (try (refine ⟨fun _ h => (by cases h), ?_⟩; gi_wp2)))
                  refine ⟨(fun _ => by omega), hR2.mono ?_⟩
                  rintro e W4 (⟨rfl, hJ4, hk4⟩ | ⟨rfl, hJx4⟩)
                  · (gi_wp2; (try (refine ⟨fun _ h => (by cases h), ?_⟩; gi_wp2)); (try (refine ⟨fun _ h => (by cases h), ?_⟩; gi_wp2)))
                    go_roundw
                    case rel => exact ⟨k + 1, by omega, by go_num, by rw [HS.out, hpa, hpb]; simpa using hJ4, (hkc.t hk3).t hk4, Nat.le_trans hszc (Nat.le_trans hk3.low.size hk4.low.size)⟩
                    case measure => simp [intOf]; omega
                  · (gi_wp2; (try (refine ⟨fun _ h => (by cases h), ?_⟩; gi_wp2)); (try (refine ⟨fun _ h => (by cases h), ?_⟩; gi_wp2)))
                    refine bodyPost_ret (results_none rfl _ _ _) rfl ?_
                    exact ⟨⟨_, rfl⟩, .inr ⟨_, trivial, hJx4⟩⟩
                · (gi_wp2; (try (refine ⟨fun _ h => (by cases h), ?_⟩; gi_wp2)); (try (refine ⟨fun _ h => (by cases h), ?_⟩; gi_wp2)))
                  refine bodyPost_ret (results_none rfl _ _ _) rfl ?_
                  exact ⟨⟨_, rfl⟩, .inr ⟨_, trivial, hJx3⟩⟩
    · obtain rfl : k = n1 := by omega
      gi_wp2
      go_end0
      exact ⟨⟨_, rfl⟩, .inl ⟨_, by rw [← HL.out, nbTo_all], hJk⟩⟩
end Go.Proofs.YtphlojgmfkgeiaaGreatDoor
/- Rows that the call makes, inside a range over a function; marks. -/
namespace Go.Proofs.YtphlojgmfkgeiaaGreatDoor
open Go.RowKit Go.Sort Go.Shelf
set_option linter.unusedSimpArgs false
set_option linter.unusedVariables false
attribute [local go_sem] cell_if frozen_if grow_cell
/-- append of a literal's elements onto a row of the call's own, in a fence. -/
theorem wpListIn_app {F : Fence} {nF : Nat} {P : Program} {ops : Array Oper} {rest : List Oper} {o : Oper} {a : Act} {Q : Exit → Act → World → Prop} {w0 : World} {cs : Array Value} (t e size bytes : Nat) (E : Elem P t e size bytes) (hgd : o.guard = none) (s x : Operand)
    (ho : o.op = .call { callee := .builtin .append, args := #[s, x], argTypes := #[t, t] }) (base g l cap : Nat) (xs : List Value) (hs : a.eval s = .slice (some ⟨g, 0, none⟩) l cap) (hown : Own w0 base e size g l cap xs) (m : Nat) (hx : a.eval x = .slice (some ⟨w0.heap.size, 0, none⟩) m m)
    (hl : cs.size = m * size) (h1 : ∀ u ∈ cs.toList, u.oneCell' = true) (hm : 0 < m) (h63 : l + m ≤ maxLen) (hbytes : (l + m) * bytes ≤ 140737488355328)
    (h : ∀ g' cap' w', Own w' base e size g' (l + m) cap' (xs ++ cs.toList) → (g' = g ∨ g' = w0.heap.size + 1) → Below base w0 w' → (∀ k, k < w0.heap.size → k ≠ g → w'.heap[k]? = w0.heap[k]?) → KeepsOthers w0 w' → w0.heap.size < w'.heap.size → wpListIn F nF P ops Q rest (a.put o.dst (.slice (some ⟨g', 0, none⟩) (l + m) cap')) w') :
    wpListIn F nF P ops Q (o :: rest) a (w0.alloc (.cells cs e)) := by
  obtain ⟨ht, ⟨i, z, h1', h2', h3', h4', h5'⟩, hp⟩ := E
  have hlt := hown.lt
  refine wpListIn_append_own_at _ hgd s x t ho base e i z size bytes ht h1' h2' h3' h4' h5' hp _ l xs hs (hown.alloc _) ⟨w0.heap.size, 0, none⟩ m m cs.toList hx (by simpa using hl) (news_new w0 cs e) h1 h63 hbytes (by simp; omega) ?_
  intro v' w' hown' hg hnil hat
  have hsz : w0.heap.size + 1 ≤ w'.heap.size := by simpa using hg.size
  obtain ⟨g', cap', rfl⟩ : ∃ g' cap', v' = .slice (some ⟨g', 0, none⟩) (l + m) cap' := by
    rcases hown'.2 with ⟨_, h0⟩ | ⟨g', cap', cur, hv, _⟩
    · omega
    · exact ⟨g', cap', hv⟩
  have hgr : w0.grownBy w' (some g) := by
    refine ⟨hg.os, hg.tape, hg.output, by omega, fun k hk hne => ?_⟩
    exact (hg.block k (by simp; omega) hne).trans (Below.heap_alloc w0 _ k hk)
  refine h g' cap' w' hown' ?_ ?_ (fun k hk hne => hgr.block k hk (by intro e; cases e; exact hne rfl)) ?_ (by omega)
  · rcases hat with hat | hat
    · left; simpa [Value.ownBlock] using hat
    · right; simpa [Value.ownBlock] using hat
  · exact (Below.refl base w0).grown hgr (by omega) (fun k hk => by cases hk; omega)
  · refine KeepsOthers.of_grownBy hgr fun j o' e hj => ?_
    cases e
    rcases hown.2 with ⟨h0, _⟩ | ⟨g2, cap2, cur, hv, _, hh, _⟩
    · cases h0
    · injection hv with h1
      injection h1 with h1
      injection h1 with h1
      subst h1
      rw [hh] at hj
      cases hj
      rfl
/-- The result is a slice that reads as zs; what lay in w lies as it lay. -/
def IntsRes (w : World) (zs : List Int) (e : Ending) (w' : World) : Prop := ∃ A cap, e = .returned (.slice A zs.length cap) ∧ Reads w' w'.heap.size 1 A zs.length (zs.map (.int .i64)) ∧ Below w.heap.size w w'
/-- The marks of ranges over functions that are over. -/
def marks (Ds : List Nat) : List Deferred := Ds.map fun D => { target := .collected D, args := #[] }
def Marked (Ds : List Nat) (w : World) : Prop := ∀ D ∈ Ds, w.heap[D]? = some (.deferred (some []))
theorem Marked.lt {Ds : List Nat} {w : World} (h : Marked Ds w) {D : Nat} (hD : D ∈ Ds) : D < w.heap.size := (Array.getElem?_eq_some_iff.1 (h D hD)).1
theorem Marked.kept {Ds : List Nat} {w w' : World} (h : Marked Ds w) (hb : Below w.heap.size w w') : Marked Ds w' := fun D hD => (hb.block D (h.lt hD)).trans (h D hD)
theorem Marked.others {Ds : List Nat} {w w' : World} (h : Marked Ds w) (hk : KeepsOthers w w') : Marked Ds w' := fun D hD => hk.same D _ (h D hD) rfl
theorem Marked.cons {Ds : List Nat} {w : World} (h : Marked Ds w) {D : Nat} (hD : w.heap[D]? = some (.deferred (some []))) : Marked (D :: Ds) w := fun E hE => by
  rcases List.mem_cons.1 hE with rfl | hE
  · exact hD
  · exact h E hE
theorem cell_put {w : World} {D : Nat} {o : Obj} (h : w.heap[D]? = some o) (ho : o.isCells = false) (o' : Obj) (ho' : o'.isCells = false) (p : Addr) (hp : p.block ≠ D) : (w.putObj D o').cell? p = w.cell? p :=
  World.cell?_of_block (w := w) (World.putObj_heap_other hp)
/-- The function leaves: all marks are taken up; what is no mark lies as it lay. -/
theorem leaves_marks {F : Fence} {n : Nat} {P : Program} {fn : Func} {tmps : Array Value} {R : Ending → World → Prop} (base : Nat) : ∀ (Ds : List Nat) (w : World), Ds.Nodup → Marked Ds w → (∀ D ∈ Ds, base ≤ D) →
    (∀ w', Below base w w' → (∀ k, k ∉ Ds → w'.heap[k]? = w.heap[k]?) → w'.heap.size = w.heap.size → LeavesInM F n P fn tmps R [] .returning w') → LeavesInM F n P fn tmps R (marks Ds) .returning w
  | [], w, _, _, _, h => h w (Below.refl _ _) (fun _ _ => rfl) rfl
  | D :: Ds, w, hn, hm, hb, h => by
    rw [List.nodup_cons] at hn
    have hD := hm D List.mem_cons_self
    have hlt := hm.lt List.mem_cons_self
    refine ⟨by simp, .inl ⟨D, _, rfl, run_takeDeferred hD, ?_⟩⟩
    refine leaves_marks base Ds _ hn.2 (fun E hE => ?_) (fun E hE => hb E (List.mem_cons_of_mem _ hE)) fun w' hw' hk hs => ?_
    · exact (World.putObj_heap_other (by rintro rfl; exact hn.1 hE)).trans (hm E (List.mem_cons_of_mem _ hE))
    · have h1 : Below base w (w.putObj D (.deferred none)) := (Below.refl base w).grown (grownBy_putObj' w D _) (by have := hb D List.mem_cons_self; omega) (fun k e => by cases e; exact hb _ List.mem_cons_self)
      refine h w' (h1.trans hw') (fun k hk' => ?_) (by rw [hs]; simp)
      rw [List.mem_cons, not_or] at hk'
      rw [hk k hk'.2]
      exact World.putObj_heap_other hk'.1
end Go.Proofs.YtphlojgmfkgeiaaGreatDoor
/- slices.Sort on a row of the call's own. -/
namespace Go.Proofs.YtphlojgmfkgeiaaGreatDoor
open Go.RowKit Go.Sort Go.Shelf
set_option linter.unusedSimpArgs false
set_option linter.unusedVariables false
attribute [local go_sem] cell_if frozen_if grow_cell
theorem insI_perm (z : Int) : ∀ l : List Int, (insI z l).Perm (z :: l)
  | [] => .refl _
  | x :: r => by
    unfold insI
    split
    · exact .refl _
    · exact (List.Perm.cons x (insI_perm z r)).trans (.swap ..)
theorem sortI_perm : ∀ l : List Int, (sortI l).Perm l
  | [] => .refl _
  | x :: r => (insI_perm x (sortI r)).trans (.cons x (sortI_perm r))
theorem insI_le {z : Int} : ∀ {l : List Int}, l.Pairwise (· ≤ ·) → (insI z l).Pairwise (· ≤ ·)
  | [], _ => by simp [insI]
  | x :: r, h => by
    rw [List.pairwise_cons] at h
    unfold insI
    split
    · rename_i hz
      rw [List.pairwise_cons, List.pairwise_cons]
      refine ⟨fun b hb => ?_, h.1, h.2⟩
      rcases List.mem_cons.1 hb with rfl | hb
      · exact hz
      · have := h.1 b hb; omega
    · rw [List.pairwise_cons]
      refine ⟨fun b hb => ?_, insI_le h.2⟩
      rcases mem_insI.1 hb with rfl | hb
      · omega
      · exact h.1 b hb
theorem sortI_le : ∀ l : List Int, (sortI l).Pairwise (· ≤ ·)
  | [] => .nil
  | _ :: r => insI_le (sortI_le r)
theorem merge_sortI (l : List Int) : (l.mergeSort fun x y => decide (x ≤ y)) = sortI l := by
  refine List.Perm.eq_of_pairwise (le := (· ≤ ·)) (fun a b _ _ h h' => by omega) ?_ (sortI_le l) ((List.mergeSort_perm l _).trans (sortI_perm l).symm)
  have h := List.pairwise_mergeSort (le := fun x y : Int => decide (x ≤ y)) (fun a b c h1 h2 => by simp at h1 h2 ⊢; omega) (fun a b => by simp; omega) l
  exact h.imp (fun h => by simpa using h)
theorem Sort_any (base g l cap : Nat) (xs : List Int) (w : World) (h : Own w base 3 1 g l cap (xs.map (.int .i64))) (hx : xs.length ≤ 1000) :
    Calls Tryz.prog 154 #[.slice (some ⟨g, 0, none⟩) l cap] w fun e w' => e = .returned (.tuple #[]) ∧ Own w' base 3 1 g l cap ((sortI xs).map (.int .i64)) ∧ Below base w w' ∧ ∀ k, k < w.heap.size → k ≠ g → w'.heap[k]? = w.heap[k]? := by
  obtain ⟨hl, h2⟩ := h
  obtain rfl : l = xs.length := by simpa using hl.symm
  rcases h2 with ⟨h0, _⟩ | ⟨g', cap', cur, hv, hbase, hb, h1, h2, h3, h4⟩
  · cases h0
  · injection hv with e1 e2 e3
    injection e1 with e1
    injection e1 with e1
    subst e1
    subst e3
    have hlt := (Array.getElem?_eq_some_iff.1 hb).1
    have hr := Tryz.slices_Sort_int g 0 cap xs w (holds_of_blockI hb (by simpa using h4)) hlt (by omega)
    refine hr.mono ?_
    rintro e w' ⟨rfl, n, os, rfl⟩
    rw [merge_sortI]
    have hg := grownBy_sortedI (w := w) (g := g) (n := n) (os := os) (sortI xs).toArray
    refine ⟨rfl, ownsRow_sortedI (sortI_perm xs).length_eq hbase hb h1 h2 h3, (Below.refl base w).grown hg (by omega) (fun k hk => by cases hk; exact hbase), fun k hk hne => hg.block k hk (by intro e; cases e; exact hne rfl)⟩
end Go.Proofs.YtphlojgmfkgeiaaGreatDoor
/- Island. -/
namespace Go.Proofs.YtphlojgmfkgeiaaGreatDoor
open Go.RowKit Go.Sort Go.Shelf
set_option linter.unusedSimpArgs false
set_option linter.unusedVariables false
attribute [local go_sem] cell_if frozen_if grow_cell
attribute [local go_sem] Oper.semAt_some
theorem elemInt : Elem Tryz.prog 29 3 1 8 := elem_of Tryz.underlying29 (z := .int .i64 0) (by kernel_rfl) rfl (by decide)
/-- The search in memory: box bo holds the slice, whose row is the call's own. -/
structure IsM (W : World) (B : Nat) (A0 A1 A2 : Option Addr) (n0 n1 n2 c0 c1 c2 : Nat) (l : List Int) (w : World) (g cap : Nat) : Prop where
  box : Blk w (B + 1 + 1) 29 #[.slice (some ⟨g, 0, none⟩) l.length cap]
  row : Own w B 3 1 g l.length cap (l.map (.int .i64))
  yard : Blk w B 41 #[.slice A0 n0 c0, .slice A1 n1 c1, .slice A2 n2 c2]
  low : Below B W w
theorem row_ne {w : World} {base size g l cap k : Nat} {e : TypeId} {xs : List Value} (h : Own w base e size g l cap xs) {o : Obj} (hk : w.heap[k]? = some o) (ho : ∀ cs m, o ≠ .cells cs e m) : k ≠ g := by
  rintro rfl
  rcases h.2 with ⟨h0, _⟩ | ⟨g', cap', cur, hv, _, hg, _⟩
  · cases h0
  · injection hv with h1
    injection h1 with h1
    injection h1 with h1
    subst h1
    rw [hg] at hk
    cases hk
    exact ho _ _ rfl
theorem row_blk {w : World} {base size g l cap k : Nat} {e t : TypeId} {xs : List Value} {c : Array Value} (h : Own w base e size g l cap xs) (hk : Blk w k t c) (ht : t ≠ e) : k ≠ g :=
  row_ne h hk (fun cs m e' => by injection e' with _ h1 _; exact ht h1)
theorem row_mark {w : World} {base size g l cap k : Nat} {e : TypeId} {xs : List Value} {d : Option (List Deferred)} (h : Own w base e size g l cap xs) (hk : w.heap[k]? = some (.deferred d)) : k ≠ g :=
  row_ne h hk (fun cs m e' => by cases e')
theorem Own.same {w w' : World} {base size g l cap : Nat} {e : TypeId} {xs : List Value} (h : Own w base e size g l cap xs) (hb : w'.heap[g]? = w.heap[g]?) : Own w' base e size g l cap xs := by
  obtain ⟨h1, h2⟩ := h
  refine ⟨h1, ?_⟩
  rcases h2 with h2 | ⟨g', cap', cur, hv, hg, hh, r⟩
  · exact Or.inl h2
  · have e' : g' = g := by injection hv with h1; injection h1 with h1; injection h1 with h1; exact h1.symm
    subst e'
    exact Or.inr ⟨g', cap', cur, hv, hg, hb.trans hh, r⟩
theorem IsM.kept {W : World} {B : Nat} {A0 A1 A2 : Option Addr} {n0 n1 n2 c0 c1 c2 : Nat} {l : List Int} {w w' : World} {g cap : Nat} (h : IsM W B A0 A1 A2 n0 n1 n2 c0 c1 c2 l w g cap) (hb : Below w.heap.size w w') (hB : B ≤ w.heap.size) : IsM W B A0 A1 A2 n0 n1 n2 c0 c1 c2 l w' g cap :=
  ⟨h.box.kept hb, h.row.kept hb, h.yard.kept hb, h.low.trans (hb.mono hB)⟩
theorem IsM.grown {W : World} {B : Nat} {A0 A1 A2 : Option Addr} {n0 n1 n2 c0 c1 c2 : Nat} {l : List Int} {w w' : World} {g cap : Nat} {row : Option Nat} (h : IsM W B A0 A1 A2 n0 n1 n2 c0 c1 c2 l w g cap) (hg : w.grownBy w' row) (hB : B ≤ w.heap.size) (hr : ∀ r, row = some r → B ≤ r ∧ ∃ o : Obj, w.heap[r]? = some o ∧ o.isCells = false) : IsM W B A0 A1 A2 n0 n1 n2 c0 c1 c2 l w' g cap := by
  have hne : ∀ k t c, Blk w k t c → some k ≠ row := fun k t c hb e => by
    obtain ⟨_, o, ho, hc⟩ := hr k e.symm
    rw [show w.heap[k]? = _ from hb] at ho
    cases ho
    cases hc
  have hgl := h.row.lt.2
  refine ⟨h.box.grown hg (hne _ _ _ h.box), h.row.same (hg.block g hgl fun e => ?_), h.yard.grown hg (hne _ _ _ h.yard), h.low.grown hg hB (fun k e => (hr k e).1)⟩
  obtain ⟨_, o, ho, hc⟩ := hr g e.symm
  exact row_ne h.row ho (fun cs m e => by rw [e] at hc; cases hc) rfl
theorem addAll_len (ks : List Int) : ∀ l : List Int, (addAll l ks).length ≤ l.length + ks.length := by
  induction ks with
  | nil => intro l; exact Nat.le_refl _
  | cons k r ih =>
    intro l
    have h1 := ih (addNew l k)
    have h2 : (addNew l k).length ≤ l.length + 1 := by unfold addNew; split <;> simp
    show (addAll (addNew l k) r).length ≤ _
    simp only [List.length_cons]
    omega
theorem addAll_snoc (l pre : List Int) (z : Int) : addAll l (pre ++ [z]) = addNew (addAll l pre) z := by simp [addAll]
theorem bfs_some {nb : Int → List Int} {f i : Nat} {l : List Int} {c : Int} (h : l[i]? = some c) : bfs nb (f + 1) i l = bfs nb f (i + 1) (addAll l (nb c)) := by simp only [bfs, h]
theorem bfs_none {nb : Int → List Int} {f i : Nat} {l : List Int} (h : l[i]? = none) : bfs nb (f + 1) i l = l := by simp only [bfs, h]
/-- The result is a row of the call's own that reads as zs. -/
def IntsOwn (w : World) (zs : List Int) (e : Ending) (w' : World) : Prop := ∃ g cap, e = .returned (.slice (some ⟨g, 0, none⟩) zs.length cap) ∧ Own w' w.heap.size 3 1 g zs.length cap (zs.map (.int .i64)) ∧ Below w.heap.size w w'
def IsI (w W0 : World) (a : Nat) (A0 A1 A2 : Option Addr) (n0 n1 n2 c0 c1 c2 : Nat) (Ds : List Nat) (l : List Int) (W : World) : Prop := ∃ g cap, IsM w w.heap.size A0 A1 A2 n0 n1 n2 c0 c1 c2 l W g cap ∧ g ≠ a ∧ Marked Ds W ∧ W0.heap.size ≤ W.heap.size
set_option maxRecDepth 100000 in
set_option maxHeartbeats 4000000 in
theorem island_own (B : Nat) (A0 A1 A2 : Option Addr) (n0 n1 n2 c0 c1 c2 : Nat) (y : Yd) (i : Int) (all : Bool) (w : World) (hY : YdAt w B A0 A1 A2 n0 n1 n2 y) (hB : B ≤ w.heap.size) (hE : EndsIn y.s.length y.w) (hi : i ∈ rng y.s.length) (hn0 : y.s.length ≤ 9) (hn1 : n1 ≤ 9) :
    Calls Tryz.prog 94 #[.agg #[.slice A0 n0 c0, .slice A1 n1 c1, .slice A2 n2 c2], .int .i64 i, .bool all] w (IntsOwn w (y.isl all i)) := by
  refine (callsIn_wide (n := 9)).1 ?_
  refine callsIn_of_wp_marks Tryz.func94 rfl trivial ?_ rfl
  refine wpIn_wide.2 ?_
  simp only [Tryz.ntmps94, List.size_toArray, List.length_cons, List.length_nil, Nat.reduceAdd, Nat.reduceSub, Array.replicate_succ, Array.replicate_zero, List.push_toArray, List.append_toArray, List.nil_append, List.cons_append]
  have HY := Lib.hid hY
  have HE := Lib.hid hE
  have HI := Lib.hid hi
  clear hY hE hi
  have hBs : Blk ((w.alloc (.cells #[.slice A0 n0 c0, .slice A1 n1 c1, .slice A2 n2 c2] 41)).alloc (.cells #[.int .i64 i] 3)) (w.heap.size + 1) 3 #[.int .i64 i] := bk_
  go_wp2_with fail
  refine wp_loop (fun a wr => ∃ (k : Nat) (l : List Int) (g cap : Nat) (Ds : List Nat) (u9 u12 u13 u14 u15 u16 u17 u18 u19 u20 u21 u22 u23 u24 u25 u26 u27 u28 u29 u30 u31 u32 u33 : Value), a = { tmps := #[.agg #[.slice A0 n0 c0, .slice A1 n1 c1, .slice A2 n2 c2], .int .i64 i, .bool all, .pointer (some ⟨w.heap.size, 0, none⟩), undef, undef, .slice none 0 0, .pointer (some ⟨w.heap.size + 1 + 1, 0, none⟩), .int .i64 (k : Int), u9, .int .i64 i, .slice (some ⟨w.heap.size + 1, 0, none⟩) 1 1, u12, u13, u14, u15, u16, u17, u18, u19, u20, u21, u22, u23, u24, u25, u26, u27, u28, u29, u30, u31, u32, u33, undef, undef, undef], defers := marks Ds } ∧
      IsM w w.heap.size A0 A1 A2 n0 n1 n2 c0 c1 c2 l wr g cap ∧ Bf (nbrs y.w all) i (rng y.s.length) k l ∧ Hid (islB y.s.length y.w all i = bfs (nbrs y.w all) (y.s.length + 1 - k) k l) ∧ Marked Ds wr ∧ Ds.Nodup ∧ ∀ D ∈ Ds, w.heap.size ≤ D)
    (fun a _ => y.s.length + 1 - (intOf (a.tmps.getD 8 undef)).toNat) ?start ?round
  case start =>
    refine ⟨0, [i], w.heap.size + 1, 1, [], undef, ?_⟩
    (repeat apply Exists.intro)
    refine ⟨rfl, ⟨(show Blk _ _ _ #[.slice (some ⟨w.heap.size + 1, 0, none⟩) 1 1] from bk_), ?_, bk_, bl_⟩, Bf.start HI.out, Lib.hid rfl, fun D hD => by simp at hD, List.nodup_nil, fun D hD => by simp at hD⟩
    have hO := Own.new (w.alloc (.cells #[.slice A0 n0 c0, .slice A1 n1 c1, .slice A2 n2 c2] 41)) w.heap.size 3 1 1 #[.int .i64 i] (by simp) rfl (by decide)
    rw [World.size_alloc] at hO
    exact hO.alloc _
  case round =>
    rintro a wr ⟨k, l, g, cap, Ds, u9, u12, u13, u14, u15, u16, u17, u18, u19, u20, u21, u22, u23, u24, u25, u26, u27, u28, u29, u30, u31, u32, u33, rfl, hM, hBf, hbf, hDs, hDn, hDb⟩
    have cB := hM.box.cell 0
    have cY := hM.yard.cell
    have hbl := hBf.bound
    rw [rng_len] at hbl
    by_cases hlt : k < l.length
    · have HM := Lib.hid hM
      have HBf := Lib.hid hBf
      have hlw := hM.low.size
      have hgl := hM.row.lt.2
      have hyl := hM.yard.lt
      have hxl := hM.box.lt
      have hrow := (int_at hM.row.reads).2 k hlt
      obtain ⟨b, o, eA, _, hcell⟩ := hrow
      cases eA
      simp at cB hcell
      have HX : Hid (l[k]? = some l[k]) := List.getElem?_eq_getElem hlt
      generalize l[k] = x at *
      clear hM hBf
      have HLT := Lib.hid hlt
      go_wp2_with fail
      (refine wp_region_calm [] [0, 1, 2, 3, 4, 5] 1 (by kernel_rfl) rfl (by kernel_rfl) (by kernel_rfl) (by kernel_rfl) ?_; simp only [pickB, List.filterMap_cons, List.filterMap_nil, List.getElem?_toArray, List.getElem?_cons_zero, List.getElem?_cons_succ]; (repeat ((with_reducible refine quietL_plain rfl (fun K hK => ?_)); (apply Exists.intro; refine ⟨fun wx hx => ?_, ?_⟩; (· (have hcx := ifs_ex hx); simp [go_sem, *, ↓IntWalk.iteOmega] <;> (first | rfl | exact ⟨rfl, rfl⟩ | fail)); (simp only [Act.put, List.setIfInBounds_toArray, List.set_cons_zero, List.set_cons_succ]; refine hK _ ?_; clear hK K)))); refine quietL_nil ?_)
      refine anyB_one (i := 6) (by kernel_rfl) rfl rfl ?_
      intro wa hba K hK
      obtain ⟨hca, hfa⟩ := ifs_of hba; have hsa := hba.size; (try simp at hsa)
      go_wp2_with fail
      refine (neighbours_any A0 A1 A2 n0 n1 n2 c0 c1 c2 _ all _).mono ?_
      rintro e wb ⟨rfl, hwb⟩
      have q1 : Blk wb wa.heap.size 41 #[.slice A0 n0 c0, .slice A1 n1 c1, .slice A2 n2 c2] := by rw [← hwb]; exact bk_
      have q2 : Blk wb (wa.heap.size + 1) 3 #[.int .i64 x] := by rw [← hwb]; exact bk_
      have q3 : Blk wb (wa.heap.size + 1 + 1) 4 #[.bool all] := by rw [← hwb]; exact bk_
      have hbw : Below wr.heap.size wr wb := by rw [← hwb]; exact bl_
      have hsb : wa.heap.size + 1 + 1 + 1 = wb.heap.size := by rw [← hwb]; simp
      clear hwb
      go_wp2
      refine ⟨xs_, ?_⟩
      refine anyB_end (by kernel_rfl) ?_
      intro W0 hb0
      simp only [Calm]
      go_wp2_with fail
      have hM0 : IsM w w.heap.size A0 A1 A2 n0 n1 n2 c0 c1 c2 l W0 g cap := (HM.out.kept hbw (by omega)).kept hb0 (by have := hbw.size; omega)
      have hD0 : Marked Ds W0 := (hDs.kept hbw).kept hb0
      have hY0 : YdAt W0 B A0 A1 A2 n0 n1 n2 y := HY.out.below (hM0.low.mono hB)
      have p1 := q1.kept hb0
      have p2 := q2.kept hb0
      have p3 := q3.kept hb0
      have hs0 := hb0.size
      have hsa := hba.size
      clear cB cY hcell hb0 hbw hDs q1 q2 q3 hfa hca
      refine (wpIn_wide (n := 9)).1 ?_
      refine wpIn_rangeFunc_ownH rfl (by omega) (gf := 187) (lb := #[.pointer (some ⟨wa.heap.size, 0, none⟩), .pointer (some ⟨wa.heap.size + 1 + 1, 0, none⟩), .pointer (some ⟨wa.heap.size + 1, 0, none⟩)]) rfl trivial (enters_of Tryz.func187 (by kernel_rfl) rfl)
        (nb_stops 8 wa.heap.size (wa.heap.size + 1) (wa.heap.size + 1 + 1) (w.heap.size + 1 + 1) B A0 A1 A2 n0 n1 n2 c0 c1 c2 y x all W0 (by omega) hY0 (by omega) hn1 (by omega) (by omega) (by omega) p1 p2 p3) KpN.t (KpN.b (by omega) (by omega)) (Below.refl _ _) (fun _ => rfl)
        (fun pre W => IsI w W0 (wa.heap.size + 1) A0 A1 A2 n0 n1 n2 c0 c1 c2 Ds (addAll l pre) W)
        (fun _ _ _ => False)
        (fun pre U V row hs hg hr => by
          obtain ⟨g', cap', h1, h2, h3, h4⟩ := hs
          refine ⟨g', cap', h1.grown hg (by omega) (fun r e => ⟨by have := (hr r e).1; omega, (hr r e).2⟩), h2, fun D hD => ?_, Nat.le_trans h4 hg.size⟩
          exact (hg.block D (h3.lt hD) (fun e => by have := (hr D e.symm).1; have := hD0.lt hD; omega)).trans (h3 D hD))
        (fun _ _ _ _ _ hs _ _ => hs)
        ⟨g, cap, hM0, by omega, hD0, Nat.le_refl _⟩
        (fun z a' _ => a' = { tmps := #[.agg #[.slice A0 n0 c0, .slice A1 n1 c1, .slice A2 n2 c2], .int .i64 i, .bool all, .pointer (some ⟨w.heap.size, 0, none⟩), undef, undef, .slice none 0 0, .pointer (some ⟨w.heap.size + 1 + 1, 0, none⟩), .int .i64 (k : Int), .int .i64 z, .int .i64 i, .slice (some ⟨w.heap.size + 1, 0, none⟩) 1 1, .int .i64 k, .slice (some ⟨g, 0, none⟩) l.length cap, .int .i64 l.length, .bool true, u16, u17, .agg #[.slice A0 n0 c0, .slice A1 n1 c1, .slice A2 n2 c2], .slice (some ⟨g, 0, none⟩) l.length cap, .int .i64 k, .pointer (some ⟨g, k, none⟩), .int .i64 x, .bool all, .func (.func 187) #[] #[.pointer (some ⟨wa.heap.size, 0, none⟩), .pointer (some ⟨wa.heap.size + 1 + 1, 0, none⟩), .pointer (some ⟨wa.heap.size + 1, 0, none⟩)], .int .i64 z, u26, u27, u28, u29, u30, u31, u32, u33, undef, undef, undef], defers := [] }) (fun _ _ _ _ _ _ hs _ _ => hs) ?assign ?body ?done ?stop
      case assign =>
        rintro l' pre z W K hI hK
        dsimp only [intV]
        gi_wp2
        exact hK _ _ (KeepsFrom.refl _ _) ⟨Below.refl _ _, fun _ _ _ _ _ h => h, rfl⟩ hI rfl
      case body =>
        rintro l' pre z a' W hl ⟨r, hr⟩ ⟨g', cap', hM', hne, hDs', hsz'⟩ rfl hlp
        have cB' := hM'.box.cell 0
        simp at cB'
        have fB' := hM'.box.frozen 0
        have hxl' := hM'.box.lt
        have hgl' := hM'.row.lt
        have HM' := Lib.hid hM'
        have hal := addAll_len pre l
        have HS := Lib.hid (addAll_snoc l pre z)
        have hlow' := hM'.low
        clear hM'
        generalize addAll l pre = L at *
        have hC := fun W' h => ContainsI_any (g' + 1) (some ⟨g', 0, none⟩) L.length cap' L z W' h (by unfold maxLen; omega)
        have HC := Lib.hid hC
        clear hC
        cases hz : hasI L z with
        | true =>
          rw [hz] at HC
          gi_wp2_with (refine ⟨trivial, ?_⟩; gi_at_call 89; refine (CallsIn.inRound l' (callsIn_wide.2 (HC.out _ HM'.out.row.reads))).mono ?_; rintro e w1 ⟨rfl, rfl⟩)
          refine ⟨KeepsFrom.refl _ _, ⟨Below.refl _ _, fun _ _ _ _ _ h => h, rfl⟩, g', cap', ?_, hne, hDs', hsz'⟩
          rw [HS.out, addNew, if_pos hz]
          exact HM'.out
        | false =>
          rw [hz] at HC
          gi_wp2_with (first | (refine ⟨trivial, ?_⟩; gi_at_call 89; refine (CallsIn.inRound l' (callsIn_wide.2 (HC.out _ HM'.out.row.reads))).mono ?_; rintro e w1 ⟨rfl, rfl⟩) | (gi_at_builtin; refine wpListIn_app 29 3 1 8 elemInt rfl (.tmp 30) (.tmp 32) rfl w.heap.size g' L.length cap' _ rfl HM'.out.row 1 rfl rfl ?h1 (by decide) ?h3 ?h4 ?_; (case h1 => intro u hu; simp at hu; subst hu; rfl); (case h3 => unfold maxLen; omega); (case h4 => omega); intro g2 cap2 w2 hO2 hg2 hb2 hk2 ho2 hs2; have cc2 : w2.cell? ⟨w.heap.size + 1 + 1, 0, none⟩ = some (.slice (some ⟨g', 0, none⟩) L.length cap') := (World.cell?_of_block (w := W) (hk2 _ hxl' (row_blk HM'.out.row HM'.out.box (by decide)))).trans cB'; have f2 : w2.frozen? ⟨w.heap.size + 1 + 1, 0, none⟩ = false := (show Blk w2 _ _ _ from (hk2 _ hxl' (row_blk HM'.out.row HM'.out.box (by decide))).trans HM'.out.box).frozen 0))
          have hO2' := hO2
          have hlt2 := hb2.size
          have hbx : Blk w2 (w.heap.size + 1 + 1) 29 _ := (hk2 _ hxl' (row_blk HM'.out.row HM'.out.box (by decide))).trans HM'.out.box
          have hyd : Blk w2 w.heap.size 41 _ := (hk2 _ (by omega) (row_blk HM'.out.row HM'.out.yard (by decide))).trans HM'.out.yard
          have hne2 : w.heap.size + 1 + 1 ≠ g2 := row_blk hO2 hbx (by decide)
          refine ⟨(ho2.trans (KeepsOthers.setCell _ _ _)).from _, ⟨(hb2.mono hB).setCell (p := ⟨w.heap.size + 1 + 1, 0, none⟩) (by simp; omega) _, fun k' t c ht hk' hb' => ?_, ?_⟩, ⟨g2, cap2, ?_, ?_, (hDs'.others ho2).others (KeepsOthers.setCell _ _ _), ?_⟩⟩
          · exact (show Blk w2 k' t c from (hk2 k' hb'.lt (row_blk HM'.out.row hb' ht)).trans hb').far hk' _
          · rw [Below.heap_setCell _ _ _ _ (by simp; omega)]
            exact hk2 _ (by omega) (fun e => hne e.symm)
          · rw [HS.out, addNew, if_neg (by rw [hz]; exact Bool.false_ne_true)]
            refine ⟨?_, ?_, hyd.far (by simp; omega) _, ?_⟩
            · rw [List.length_append]; exact hbx.set_ 0 _
            · rw [List.length_append, List.map_append]
              exact (show Own w2 _ _ _ _ _ _ _ from hO2).same (Below.heap_setCell _ _ _ _ (by simp; omega))
            · exact (hlow'.trans hb2).setCell (p := ⟨w.heap.size + 1 + 1, 0, none⟩) (by simp; omega) _
          · rcases hg2 with rfl | rfl
            · exact hne
            · omega
          · have : (w2.setCell ⟨w.heap.size + 1 + 1, 0, none⟩ (.slice (some ⟨g2, 0, none⟩) (L.length + 1) cap2)).heap.size = w2.heap.size := by simp [World.setCell]
            omega
      case done =>
        rintro D ys W hD rfl ⟨g', cap', hM', hne, hDs', hsz'⟩ hK
        go_wp2
        refine ⟨⟨k + 1, addAll l (nbrs y.w all x), g', cap', D :: Ds, u9, ?_⟩, by simp [intOf]; omega⟩
        (repeat apply Exists.intro)
        refine ⟨rfl, hM', HBf.out.next (nbrs_in HE.out) HX.out, ?_, hDs'.cons hK, ?_, ?_⟩
        · have e := hbf.out
          rw [show y.s.length + 1 - k = (y.s.length + 1 - (k + 1)) + 1 by omega] at e
          rw [bfs_some HX.out] at e
          exact Lib.hid e
        · rw [List.nodup_cons]
          exact ⟨fun h => by have := hD0.lt h; omega, hDn⟩
        · intro E hE'
          rcases List.mem_cons.1 hE' with rfl | h
          · omega
          · exact hDb E h
      case stop =>
        rintro D c pre W _ _ hf _
        exact hf.elim
    · have hle := hBf.le
      obtain rfl : k = l.length := by omega
      have HO := Lib.hid hM.row
      have hxl := hM.box.lt
      have hlow := hM.low
      have hyl := hM.yard.lt
      simp at cB
      clear cY
      have hn : y.s.length + 1 - l.length = (y.s.length - l.length) + 1 := by omega
      have e := hbf.out
      rw [hn, bfs_none (List.getElem?_eq_none (Nat.le_refl _))] at e
      have HR : Hid (y.isl all i = sortI l) := by show Go.Proofs.YtphlojgmfkgeiaaGreatDoor.isl _ _ _ _ = _; rw [Go.Proofs.YtphlojgmfkgeiaaGreatDoor.isl, e]
      clear hn e hbf
      go_wp2_with (go_at_call 154; refine (Sort_any w.heap.size g l.length cap l _ HO.out (by omega)).mono ?_; rintro e w1 ⟨rfl, hO1, hb1, hk1⟩; have cc1 : w1.cell? ⟨w.heap.size + 1 + 1, 0, none⟩ = some (.slice (some ⟨g, 0, none⟩) l.length cap) := (World.cell?_of_block (w := wr) (hk1 _ hxl (row_blk HO.out hM.box (by decide)))).trans cB)
      have hD1 : Marked Ds w1 := fun D hD => (hk1 D (hDs.lt hD) (row_mark HO.out (hDs D hD))).trans (hDs D hD)
      refine leaves_marks w.heap.size Ds w1 hDn hD1 hDb fun w' hw' hkk hs => ?_
      have hgD : g ∉ Ds := fun h => (row_mark HO.out (hDs g h)) rfl
      have hO' : Own w' w.heap.size 3 1 g l.length cap ((sortI l).map (.int .i64)) := hO1.same (hkk g hgD)
      refine ⟨_, results_tmp rfl _ _ _, ?_⟩
      show IntsOwn w _ (.returned (.slice (some ⟨g, 0, none⟩) l.length cap)) w'
      rw [HR.out]
      have hlen : (sortI l).length = l.length := by have := hO'.len; simpa using this
      refine ⟨g, cap, by rw [hlen], ?_, ?_⟩
      · rw [hlen]; exact hO'
      · exact (hlow.trans hb1).trans hw'
theorem IntsOwn.res {w w' : World} {zs : List Int} {e : Ending} (h : IntsOwn w zs e w') : IntsRes w zs e w' := by
  obtain ⟨g, cap, rfl, hO, hb⟩ := h
  exact ⟨_, cap, rfl, hO.reads.more hO.lt.2, hb⟩
theorem island_any (B : Nat) (A0 A1 A2 : Option Addr) (n0 n1 n2 c0 c1 c2 : Nat) (y : Yd) (i : Int) (all : Bool) (w : World) (hY : YdAt w B A0 A1 A2 n0 n1 n2 y) (hB : B ≤ w.heap.size) (hE : EndsIn y.s.length y.w) (hi : i ∈ rng y.s.length) (hn0 : y.s.length ≤ 9) (hn1 : n1 ≤ 9) :
    Calls Tryz.prog 94 #[.agg #[.slice A0 n0 c0, .slice A1 n1 c1, .slice A2 n2 c2], .int .i64 i, .bool all] w (IntsRes w (y.isl all i)) :=
  (island_own B A0 A1 A2 n0 n1 n2 c0 c1 c2 y i all w hY hB hE hi hn0 hn1).mono fun _ _ h => h.res
end Go.Proofs.YtphlojgmfkgeiaaGreatDoor
