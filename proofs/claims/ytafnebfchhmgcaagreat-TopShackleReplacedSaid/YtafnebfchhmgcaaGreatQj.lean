/- Joined texts: Sj BN BP BQ BR BT Sk BO. -/
import Derived.Ground.SlgfProg
import Derived.Shelf.SlicesE.DeleteFunc
import Derived.Test.YtafnebfchhmgcaaGreatProg
import Derived.Sort.OwnSortedInts
import Derived.Test.YtafnebfchhmgcaaGreatQi
import Derived.Test.YtafnebfchhmgcaaGreatQc
import Derived.Test.YtafnebfchhmgcaaGreatQd
import Derived.Laws.EntriesVeiled
import Derived.Test.YtafnebfchhmgcaaGreatQf
import Derived.Deep.DeepCutAuto
import Derived.Deep.CutBlock
import Derived.WalkMore
import Derived.Test.YtafnebfchhmgcaaGreatQe
import Derived.Deep.AppendLies
import Derived.Shelf.Sort.Plain
import Derived.Shelf.Slices.In.SortNone
/-
  DERIVED: THE SHELF's CONTRACTS AT THIS DUMP, IN PLAIN WORDS (tools/lay-plain.mjs out of 'TryzShelf.lean', which tools/lay-shelf.mjs wrote): THE SAME DECLARATIONS UNDER THE SAME NAMES: 'import', 'namespace', 'open', 'def', 'theorem' AND NOTHING ELSE: no command of the shelf's: FOR A HAND-IN. Each laying: the table of numbers ('.._ren') and one theorem, a field a fact of the dump's own or the kernel's comparison; each contract: ONE APPLICATION.
-/
namespace Go.Proofs
open Go.Shelf
def Tryz.laysSlH10_slices_DeleteFunc_int_int_ren : Go.Shelf.Ren := ⟨fun | 10 => 138 | 6 => 136 | n => n, fun | 22 => 73 | 23 => 3 | 25 => 204 | 3 => 3 | 4 => 4 | 0 => 0 | n => n, fun | n => n⟩
theorem Tryz.laysSlH10_slices_DeleteFunc_int_int : Go.Proofs.SlLaysH.n10 Tryz.prog Tryz.laysSlH10_slices_DeleteFunc_int_int_ren := {
  mixed := by kernel_rfl
  f6 := ⟨Tryz.f136.name, by decide, Tryz.func136.trans (congrArg some (by kernel_rfl))⟩
  f10 := ⟨Tryz.f138.name, by decide, Tryz.func138.trans (congrArg some (by kernel_rfl))⟩
  t0 := Tryz.underlying0
  a0 := Tryz.isAgg0
  z0 := Tryz.sizeOf0
  v0 := Tryz.zeroValue0
  t3 := Tryz.underlying3
  a3 := Tryz.isAgg3
  z3 := Tryz.sizeOf3
  v3 := Tryz.zeroValue3
  t4 := Tryz.underlying4
  a4 := Tryz.isAgg4
  z4 := Tryz.sizeOf4
  v4 := Tryz.zeroValue4
  t22 := Tryz.underlying73
  a22 := Tryz.isAgg73
  z22 := Tryz.sizeOf73
  v22 := Tryz.zeroValue73
  a23 := Tryz.isAgg3
  z23 := Tryz.sizeOf3
  t25 := Tryz.underlying204
  a25 := Tryz.isAgg204
  z25 := Tryz.sizeOf204
  v25 := Tryz.zeroValue204 }
open Go.RowKit Go.Lib Go.Sort in
theorem Tryz.slices_DeleteFunc {α : Type} [Inhabited α] (enc : α → Value) (hO : OneCell enc) (p : α → Bool) (g : Nat) (lb : Array Value) (eg : ∀ args w, (callFunc g args).run Tryz.prog w = .ok (.enter g args) w) (zr : α) (v23 : ∀ w, (zeroValue 3).run Tryz.prog w = .ok (enc zr) w) (blk off cap : Nat) (d : Array α) (w : World) (hp : PredAt Tryz.prog g lb enc p w) (hpo : PredOver Tryz.prog g lb enc p blk off d.size w) (hH : Holds enc w blk off d) (hsz : d.size ≤ 9223372036854775807) (hcap : d.size ≤ cap) :
    Calls Tryz.prog 138 #[.slice (some ⟨blk, off, none⟩) d.size cap, .func (.func g) #[] lb] w fun e w' => e = .returned (.slice (some ⟨blk, off, none⟩) (d.toList.filter fun x => !p x).length cap) ∧ ∃ q, w' = putRow enc (Sort.ahead w q) blk off ((d.toList.filter fun x => !p x) ++ List.replicate (d.size - (d.toList.filter fun x => !p x).length) zr).toArray := AnyE.slices_DeleteFunc Tryz.laysSlH10_slices_DeleteFunc_int_int enc hO p g lb eg zr v23 blk off cap d w hp hpo hH hsz hcap
end Go.Proofs
/- Library: slices.DeleteFunc on a row of integers of the call's own. -/
namespace Go.Proofs.YtafnebfchhmgcaaGreat
open Go.RowKit Go.Sort Go.Shelf
set_option linter.unusedSimpArgs false
set_option linter.unusedVariables false
attribute [local go_sem] cell_if frozen_if grow_cell
theorem own_cut {w : World} {base e g n m cap : Nat} {xs : List Value} (h : Own w base e 1 g n cap xs) (hm : m ≤ n) : Own w base e 1 g m cap (xs.take m) := by
  obtain ⟨h1, h2⟩ := h
  refine ⟨by rw [List.length_take]; omega, ?_⟩
  rcases h2 with ⟨h0, _⟩ | ⟨g', cap', cur, hv, hb, hh, r1, r2, r3, r4⟩
  · cases h0
  · injection hv with e1 e2 e3
    injection e1 with e1
    injection e1 with e1
    subst e1
    subst e3
    exact .inr ⟨g, cap, cur, rfl, hb, hh, by omega, r2, r3, by rw [← r4, List.take_take]; congr 1; omega⟩
theorem DelF_any (base g cap f : Nat) (cb : Array Value) (xs : List Int) (p : Int → Bool) (w : World) (h : Own w base 3 1 g xs.length cap (intV xs)) (hx : xs.length ≤ 1000) (eg : Enters Tryz.prog f)
    (hp : ∀ W, w.grownBy W (some g) → ∀ x, FnGives Tryz.prog f cb #[.int .i64 x] (.bool (p x)) W) :
    Calls Tryz.prog 138 #[.slice (some ⟨g, 0, none⟩) xs.length cap, .func (.func f) #[] cb] w fun e w' => ∃ zs, zs = (xs.filter fun x => !p x) ∧ e = .returned (.slice (some ⟨g, 0, none⟩) zs.length cap) ∧ Own w' base 3 1 g zs.length cap (intV zs) ∧ w.grownBy w' (some g) := by
  obtain ⟨hl, h2⟩ := h
  rcases h2 with ⟨h0, _⟩ | ⟨g', cap', cur, hv, hbase, hb, h1, h2, h3, h4⟩
  · cases h0
  · injection hv with e1 e2 e3
    injection e1 with e1
    injection e1 with e1
    subst e1
    subst e3
    have hlt := (Array.getElem?_eq_some_iff.1 hb).1
    have hr := Tryz.slices_DeleteFunc (Value.int .i64) (fun _ => rfl) p f cb eg (0 : Int) Tryz.zeroValue3 g 0 cap xs.toArray w
      (fun W x hW => hp W ⟨hW.os, hW.tape, hW.output, hW.size, fun k hk _ => hW.block k hk⟩ x)
      (fun n os dk x _ => hp _ (grownBy_sortedI (w := w) (g := g) (n := n) (os := os) dk) x)
      (holds_of_blockI hb (by simpa [intV] using h4)) (by simp; omega) (by simpa using h1)
    simp only [List.size_toArray] at hr
    refine hr.mono ?_
    rintro e w' ⟨rfl, q, rfl⟩
    have hle : (xs.filter fun x => !p x).length ≤ xs.length := List.length_filter_le ..
    generalize hz : (xs.filter fun x => !p x) = zs at *
    have e0 : ∀ W : World, grow W #[] = W := fun W => by cases W; simp [grow]
    have hg := grownBy_sortedI (w := w) (g := g) (n := q) (os := #[]) (zs ++ List.replicate (xs.length - zs.length) 0).toArray
    have ho : Own _ base 3 1 g xs.length cap _ := ownsRow_sortedI (w := w) (n := q) (os := #[]) (ts := zs ++ List.replicate (xs.length - zs.length) 0) (ss := xs) (by simp; omega) hbase hb h1 h2 h3
    rw [e0] at hg ho
    have hc := own_cut ho hle
    rw [List.map_append, List.take_left' (by simp)] at hc
    exact ⟨zs, rfl, rfl, hc, hg⟩
end Go.Proofs.YtafnebfchhmgcaaGreat
/- choice's closures: whether an index is in the set; the worst of the set. -/
namespace Go.Proofs.YtafnebfchhmgcaaGreat
open Go.RowKit Go.Sort Go.Shelf
set_option linter.unusedSimpArgs false
set_option linter.unusedVariables false
attribute [local go_sem] cell_if frozen_if grow_cell
/-- The place of the first hit. -/
theorem idxP_find {α : Type} {p : α → Bool} : ∀ {l : List α} {k : Nat}, (l.find? p = none → idxP p k l = -1) ∧ ∀ x, l.find? p = some x → ∃ i, idxP p k l = ((k + i : Nat) : Int) ∧ l[i]? = some x
  | [], k => ⟨fun _ => rfl, fun x h => by cases h⟩
  | z :: r, k => by
    obtain ⟨h1, h2⟩ := idxP_find (p := p) (l := r) (k := k + 1)
    rw [idxP_cons, List.find?_cons]
    cases hz : p z with
    | true =>
      refine ⟨fun h => by simp at h, fun x h => ⟨0, by simp, ?_⟩⟩
      simp only [Option.some.injEq] at h
      rw [← h]
      rfl
    | false =>
      refine ⟨fun h => ?_, fun x h => ?_⟩
      · simp only at h
        simpa using h1 h
      · simp only at h
        obtain ⟨i, e1, e2⟩ := h2 x h
        refine ⟨i + 1, ?_, by simpa using e2⟩
        rw [if_neg (by decide), e1]
        congr 1
        omega
theorem best_perm {c : Ck} {l m : List Int} (h : l.Perm m) : bestL c l = bestL c m := by
  by_cases hn : m = []
  · subst hn
    rw [h.eq_nil]
  · obtain ⟨h1, h2⟩ := bestL_spec (c := c) hn
    exact best_unique (h.symm.subset h1) fun z hz => h2 z (h.subset hz)
theorem wout_perm {l m o : List Int} (h : l.Perm m) : (wout l o).Perm (wout m o) := h.filter _
/-- The first one outside of the set, by its place among the ranked ones. -/
theorem best_rk (c : Ck) (U set : List Int) : (wout U set = [] → idxP (fun x => !(hasI set x)) 0 (rankL c U) = -1) ∧ (wout U set ≠ [] → ∃ i, idxP (fun x => !(hasI set x)) 0 (rankL c U) = ((i : Nat) : Int) ∧ (rankL c U)[i]? = some (bestL c (wout U set))) := by
  have hf := find_best (set := set) (rankL_sorted c U)
  have hp := wout_perm (o := set) (rankL_perm c U)
  obtain ⟨h1, h2⟩ := idxP_find (p := fun x => !(hasI set x)) (l := rankL c U) (k := 0)
  refine ⟨fun e => h1 ?_, fun e => ?_⟩
  · rw [show (fun x => !(hasI set x)) = (fun x => !(set.contains x)) from rfl, hf, if_pos (by rw [e] at hp; exact hp.eq_nil)]
  · obtain ⟨i, e1, e2⟩ := h2 (bestL c (wout U set)) (by
      rw [show (fun x => !(hasI set x)) = (fun x => !(set.contains x)) from rfl, hf, if_neg (by intro q; rw [q] at hp; exact e hp.symm.eq_nil), best_perm hp])
    exact ⟨i, by simpa using e1, e2⟩
/-- The last one inside of the set, among the ranked ones. -/
def worstI (c : Ck) (U set : List Int) : Int := lastIn set (-1) (rankL c U)
theorem worst_rk {c : Ck} {U set : List Int} (h : ∀ x ∈ set, x ∈ U) : worstI c U set = worstL c set := by
  unfold worstI
  by_cases hn : set = []
  · rw [lastIn_none hn, hn]
    rfl
  · exact last_worst _ (rankL_sorted c U) (fun x hx => (rankL_perm c U).symm.subset (h x hx)) hn
theorem cho1_any (x : Md) (w : World) : Calls Tryz.prog 133 #[.agg #[.string x.n, .int .i64 x.q, .bool x.on, .bool x.by_]] w fun e w' => e = .returned (.bool x.on) ∧ Below w.heap.size w w' := by
  go_enter Tryz.func133, Tryz.ntmps133
  go_wp2
  go_ret
  exact ⟨rfl, bl_⟩
theorem eqi5_any (x z : Int) (b : Nat) (w : World) (h : w.cell? ⟨b, 0, none⟩ = some (.int .i64 z)) : FnGives Tryz.prog 139 #[.pointer (some ⟨b, 0, none⟩)] #[.int .i64 x] (.bool (x == z)) w := by
  show Calls Tryz.prog 139 #[.int .i64 x, .pointer (some ⟨b, 0, none⟩)] w _
  go_enter Tryz.func139, Tryz.ntmps139
  go_wp2
  all_goals (go_ret; exact ⟨by first | rfl | (simp_all; done), 0, rfl⟩)
theorem eqi6_any (x z : Int) (b : Nat) (w : World) (h : w.cell? ⟨b, 0, none⟩ = some (.int .i64 z)) : FnGives Tryz.prog 141 #[.pointer (some ⟨b, 0, none⟩)] #[.int .i64 x] (.bool (x == z)) w := by
  show Calls Tryz.prog 141 #[.int .i64 x, .pointer (some ⟨b, 0, none⟩)] w _
  go_enter Tryz.func141, Tryz.ntmps141
  go_wp2
  all_goals (go_ret; exact ⟨by first | rfl | (simp_all; done), 0, rfl⟩)
theorem inside_any (sb B : Nat) (A : Option Addr) (n c : Nat) (set : List Int) (i : Int) (w : World) (h1 : Blk w sb 73 #[.slice A n c]) (hr : Reads w B 1 A n (set.map (.int .i64))) (hn : n ≤ maxLen) :
    Calls Tryz.prog 134 #[.int .i64 i, .pointer (some ⟨sb, 0, none⟩)] w fun e w' => e = .returned (.bool (hasI set i)) ∧ w = w' := by
  have HC := Lib.hid (ContainsI_any B A n c set i w hr hn)
  have c1 := h1.cell
  have l1 := h1.lt
  clear hr
  generalize hasI set i = q at *
  go_enter Tryz.func134, Tryz.ntmps134
  go_wp2_with fail
  refine HC.out.mono ?_
  rintro e w1 ⟨rfl, rfl⟩
  go_wp2_with fail
  go_ret
  exact ⟨by first | rfl | (simp; done), rfl⟩
theorem outside_any (fb sb B : Nat) (A : Option Addr) (n c : Nat) (set : List Int) (i : Int) (w : World) (h0 : Blk w fb 204 #[.func (.func 134) #[] #[.pointer (some ⟨sb, 0, none⟩)]]) (h1 : Blk w sb 73 #[.slice A n c]) (hr : Reads w B 1 A n (set.map (.int .i64))) (hn : n ≤ maxLen) :
    Calls Tryz.prog 135 #[.int .i64 i, .pointer (some ⟨fb, 0, none⟩)] w fun e w' => e = .returned (.bool (!(hasI set i))) ∧ w = w' := by
  have HC := Lib.hid (inside_any sb B A n c set i w h1 hr hn)
  have c1 := h0.cell
  have l1 := h0.lt
  clear hr h1
  generalize hasI set i = q at *
  go_enter Tryz.func135, Tryz.ntmps135
  go_wp2_with fail
  refine HC.out.mono ?_
  rintro e w1 ⟨rfl, rfl⟩
  go_wp2_with fail
  go_ret
  exact ⟨by first | rfl | (simp; done), rfl⟩
theorem lastIn_snoc (set : List Int) (x : Int) : ∀ (l : List Int) (a : Int), lastIn set a (l ++ [x]) = if hasI set x then x else lastIn set a l
  | [], a => rfl
  | z :: r, a => lastIn_snoc set x r _
set_option maxHeartbeats 4000000 in
theorem worst_any (rb fb sb B B2 : Nat) (A A2 : Option Addr) (n c n2 c2 : Nat) (set rk : List Int) (w : World) (hR : Blk w rb 73 #[.slice A2 n2 c2]) (hk : Reads w B2 1 A2 n2 (rk.map (.int .i64))) (hB2 : B2 ≤ w.heap.size) (hn2 : n2 ≤ 400)
    (h0 : Blk w fb 204 #[.func (.func 134) #[] #[.pointer (some ⟨sb, 0, none⟩)]]) (h1 : Blk w sb 73 #[.slice A n c]) (hr : Reads w B 1 A n (set.map (.int .i64))) (hn : n ≤ maxLen) :
    Calls Tryz.prog 137 #[.pointer (some ⟨rb, 0, none⟩), .pointer (some ⟨fb, 0, none⟩)] w fun e w' => e = .returned (.int .i64 (lastIn set (-1) rk)) ∧ w = w' := by
  obtain ⟨hl, hat⟩ := int_at hk
  have HI := Lib.hid (fun i => inside_any sb B A n c set i w h1 hr hn)
  have HL := Lib.hid hl
  have HA := Lib.hid hat
  have c1 := hR.cell
  have l1 := hR.lt
  have c0 := h0.cell
  have l0 := h0.lt
  clear hl hat hk hr h1
  go_enter Tryz.func137, Tryz.ntmps137
  go_wp2_with fail
  go_loopw [3, 8] (fun s i wr => ∃ k : Nat, k ≤ n2 ∧ i = .int .i64 k ∧ s = .int .i64 (lastIn set (-1) (rk.take k)) ∧ Below w.heap.size w wr ∧ Hid (wr = w)) (fun _ i _ => n2 - (intOf i).toNat)
  case atStart => exact ⟨0, by omega, rfl, rfl, bl_, Lib.hid rfl⟩
  case round =>
    obtain ⟨k, hk, rfl, rfl, hb, hw⟩ := hrel
    by_cases hlt : k < n2
    · have hkl : k < rk.length := by rw [HL.out]; omega
      obtain ⟨b, o, eA, hbb, z0⟩ := HA.out k hkl
      have HS := Lib.hid (lastIn_snoc set rk[k] (rk.take k) (-1))
      rw [← List.take_succ_eq_append_getElem hkl] at HS
      have hi := HI.out rk[k]
      subst eA
      rw [← hw.out] at z0 hi c0 l0
      have hbw : b < wr.heap.size := by have := hb.size; omega
      generalize rk[k] = x at *
      generalize lastIn set (-1) (rk.take k) = r0 at *
      cases hq : hasI set x with
      | true =>
        rw [hq] at hi HS
        have HI1 := Lib.hid hi
        clear hi
        go_wp2_with fail
        refine HI1.out.mono ?_
        rintro e w1 ⟨rfl, rfl⟩
        go_wp2_with fail
        go_roundw
        case rel => exact ⟨k + 1, by omega, by go_num, by rw [HS.out]; rfl, hb, hw⟩
        case measure => simp [intOf]; omega
      | false =>
        rw [hq] at hi HS
        have HI1 := Lib.hid hi
        clear hi
        go_wp2_with fail
        refine HI1.out.mono ?_
        rintro e w1 ⟨rfl, rfl⟩
        go_wp2_with fail
        go_roundw
        case rel => exact ⟨k + 1, by omega, by go_num, by rw [HS.out]; rfl, hb, hw⟩
        case measure => simp [intOf]; omega
    · obtain rfl : k = n2 := by omega
      rw [List.take_of_length_le (by rw [HL.out]; omega)]
      go_wp2_with fail
      go_ret
      exact ⟨rfl, hw.out.symm⟩
end Go.Proofs.YtafnebfchhmgcaaGreat
/- choice: what lies in memory between its steps; its head. -/
namespace Go.Proofs.YtafnebfchhmgcaaGreat
open Go.RowKit Go.Sort Go.Shelf
set_option linter.unusedSimpArgs false
set_option linter.unusedVariables false
attribute [local go_sem] cell_if frozen_if grow_cell
/-- What lies in memory between the steps of choice: z is the start's size, z1 that behind the ranked ones. -/
structure ChM (w : World) (z1 : Nat) (A : Option Addr) (n c : Nat) (a : Ar) (o : Od) (b5 b6 b7 : Nat) (rk set : List Int) (W : World) : Prop where
  arm : Blk W w.heap.size 36 #[.slice A n c, .int .i64 a.lo, .int .i64 a.hi, .int .i64 a.cur, .int .i64 a.lim]
  ord : Blk W (w.heap.size + 1) 45 #[.int .i64 o.n, .int .i64 o.c]
  rr : ∃ AR cR, Blk W b5 73 #[.slice AR rk.length cR] ∧ Reads W z1 1 AR rk.length (rk.map (.int .i64)) ∧ rk.length ≤ cR
  sr : ∃ v, Blk W b6 73 #[v] ∧ W.ownsRow z1 3 1 v set.length (set.map (.int .i64))
  fb : Blk W b7 204 #[.func (.func 134) #[] #[.pointer (some ⟨b6, 0, none⟩)]]
  low : Below w.heap.size w W
  le : z1 ≤ W.heap.size
  g0 : w.heap.size + 2 ≤ z1
  g5 : b5 < z1
  g6 : z1 ≤ b6
theorem ChM.kept {w : World} {z1 : Nat} {A : Option Addr} {n c : Nat} {a : Ar} {o : Od} {b5 b6 b7 : Nat} {rk set : List Int} {W W' : World} (h : ChM w z1 A n c a o b5 b6 b7 rk set W) (hb : Below W.heap.size W W') : ChM w z1 A n c a o b5 b6 b7 rk set W' := by
  obtain ⟨AR, cR, r1, r2, r3⟩ := h.rr
  obtain ⟨v, s1, s2⟩ := h.sr
  exact ⟨h.arm.kept hb, h.ord.kept hb, ⟨AR, cR, r1.kept hb, r2.below (hb.mono h.le), r3⟩, ⟨v, s1.kept hb, own_kept s2 hb⟩, h.fb.kept hb, h.low.trans (hb.mono h.low.size), Nat.le_trans h.le hb.size, h.g0, h.g5, h.g6⟩
/-- The set is another one. -/
theorem ChM.put {w : World} {z1 : Nat} {A : Option Addr} {n c : Nat} {a : Ar} {o : Od} {b5 b6 b7 : Nat} {rk set set' : List Int} {W W' : World} {v' : Value} (h : ChM w z1 A n c a o b5 b6 b7 rk set W) (hb : Below z1 W W') (hk : ∀ k t c, t ≠ 3 → Blk W k t c → Blk W' k t c) (hr : W'.ownsRow z1 3 1 v' set'.length (set'.map (.int .i64))) :
    ChM w z1 A n c a o b5 b6 b7 rk set' (W'.setCell ⟨b6, 0, none⟩ v') := by
  obtain ⟨AR, cR, r1, r2, r3⟩ := h.rr
  obtain ⟨v, s1, s2⟩ := h.sr
  have g0 := h.g0
  have g5 := h.g5
  have g6 := h.g6
  have e5 : ∀ (V : World) (p : Addr) (u : Value), (V.setCell p u).heap.size = V.heap.size := fun V p u => by simp [World.setCell]
  have s1' := hk _ _ _ (by decide) s1
  have hst : Below z1 W (W'.setCell ⟨b6, 0, none⟩ v') := hb.setCell (p := ⟨b6, 0, none⟩) (by show z1 ≤ b6; omega) _
  refine ⟨(hk _ _ _ (by decide) h.arm).far (p := ⟨b6, 0, none⟩) (show w.heap.size ≠ b6 by omega) _, (hk _ _ _ (by decide) h.ord).far (p := ⟨b6, 0, none⟩) (show w.heap.size + 1 ≠ b6 by omega) _, ⟨AR, cR, (hk _ _ _ (by decide) r1).far (p := ⟨b6, 0, none⟩) (show b5 ≠ b6 by omega) _, r2.below hst, r3⟩, ⟨v', s1'.set_ 0 _, row_set hr s1' (by decide)⟩, (hk _ _ _ (by decide) h.fb).far (p := ⟨b6, 0, none⟩) (blk_ne h.fb s1 (by decide)) _, h.low.trans (hst.mono (by omega)), ?_, g0, g5, g6⟩
  rw [e5]
  exact Nat.le_trans h.le hb.size
theorem ChM.find {w : World} {z1 : Nat} {A : Option Addr} {n c : Nat} {a : Ar} {o : Od} {b5 b6 b7 : Nat} {rk set : List Int} {W : World} (h : ChM w z1 A n c a o b5 b6 b7 rk set W) (hn : rk.length ≤ 400) (hm : set.length ≤ 400) {AR : Option Addr} {cR : Nat} (hR : Reads W z1 1 AR rk.length (rk.map (.int .i64))) :
    Calls Tryz.prog 136 #[.slice AR rk.length cR, .func (.func 135) #[] #[.pointer (some ⟨b7, 0, none⟩)]] W fun e w' => e = .returned (.int .i64 (idxP (fun x => !(hasI set x)) 0 rk)) ∧ Below W.heap.size W w' := by
  refine IndexFuncI_any 135 _ z1 AR rk.length cR rk _ W hR h.le (by omega) (enters_of Tryz.func135 (by kernel_rfl) rfl) ?_
  intro W' hb x _
  obtain ⟨v, s1, s2⟩ := (h.kept hb).sr
  obtain ⟨A', c', rfl, _, _, hrd⟩ := own_form s2
  refine (outside_any b7 b6 _ A' set.length c' set x W' (h.fb.kept hb) s1 hrd (by unfold maxLen; omega)).mono ?_
  rintro e w' ⟨rfl, rfl⟩
  exact ⟨rfl, Below.refl _ _⟩
theorem ChM.worst {w : World} {z1 : Nat} {A : Option Addr} {n c : Nat} {a : Ar} {o : Od} {b5 b6 b7 : Nat} {rk set : List Int} {W : World} (h : ChM w z1 A n c a o b5 b6 b7 rk set W) (hn : rk.length ≤ 400) (hm : set.length ≤ 400) :
    Calls Tryz.prog 137 #[.pointer (some ⟨b5, 0, none⟩), .pointer (some ⟨b7, 0, none⟩)] W fun e w' => e = .returned (.int .i64 (lastIn set (-1) rk)) ∧ W = w' := by
  obtain ⟨v, s1, s2⟩ := h.sr
  obtain ⟨A', c', rfl, _, _, hrd⟩ := own_form s2
  obtain ⟨AR, cR, r1, r2, r3⟩ := h.rr
  exact worst_any b5 b7 b6 _ z1 A' AR set.length c' rk.length cR set rk W r1 r2 h.le (by omega) h.fb s1 hrd (by unfold maxLen; omega)
/-- What is known of an order that is not refused. -/
structure ChF (a : Ar) (o : Od) (rk : List Int) : Prop where
  fit : Fit a
  ref : refE a o = 0
  rkE : rk = rankL (ckA a o.c) (usL a)
  n0 : 0 ≤ o.n ∧ o.n ≤ 16
  cc : -1000 ≤ o.c ∧ o.c ≤ 1000
  nU : o.n.toNat ≤ (usL a).length
  len : rk.length = (usL a).length
  us : (usL a).length ≤ 16
  on : (onL a).length ≤ 16
  ndU : (usL a).Nodup
  ndO : (onL a).Nodup
  sub : ∀ x ∈ onL a, x ∈ usL a
theorem chF {a : Ar} {o : Od} (hE : armE a = 0) (ho : orderE o = 0) (hr : refE a o = 0) : ChF a o (rankL (ckA a o.c) (usL a)) := by
  have hF := fit_of hE
  obtain ⟨h1, h2⟩ := order_zero ho
  obtain ⟨_, h4, _⟩ := ref_zero hr
  have h16 := hF.n16
  have hu : (usL a).length ≤ a.m.length := idxs_len _ _ _
  have hon : (onL a).length ≤ a.m.length := idxs_len _ _ _
  exact ⟨hF, hr, rfl, h1, h2, by omega, (rankL_perm _ _).length_eq, by omega, by omega, idxs_nodup _ _ _, idxs_nodup _ _ _, on_sub hF⟩
/-- On the way in. -/
structure PIn (a : Ar) (o : Od) (set : List Int) : Prop where
  add : (onL a).length ≤ o.n.toNat → AddI (ckA a o.c) (usL a) (onL a) o.n.toNat set
  eq : o.n.toNat < (onL a).length → set = onL a
theorem PIn.start {a : Ar} {o : Od} {rk : List Int} (h : ChF a o rk) : PIn a o (onL a) := ⟨fun hn => AddI.start h.ndO h.sub hn, fun _ => rfl⟩
theorem PIn.lt {a : Ar} {o : Od} {set : List Int} (h : PIn a o set) (hlt : set.length < o.n.toNat) : (onL a).length ≤ o.n.toNat := by
  rcases Nat.lt_or_ge o.n.toNat (onL a).length with h1 | h1
  · have := h.eq h1
    rw [this] at hlt
    omega
  · exact h1
theorem PIn.len {a : Ar} {o : Od} {rk set : List Int} (h : PIn a o set) (hf : ChF a o rk) : set.length ≤ 16 := by
  have := hf.on
  have := hf.n0
  rcases Nat.lt_or_ge o.n.toNat (onL a).length with h1 | h1
  · rw [h.eq h1]; exact hf.on
  · have := (h.add h1).le
    omega
/-- One more. -/
theorem PIn.step {a : Ar} {o : Od} {rk set : List Int} (h : PIn a o set) (hf : ChF a o rk) (hlt : set.length < o.n.toNat) :
    ∃ i, idxP (fun x => !(hasI set x)) 0 rk = ((i : Nat) : Int) ∧ rk[i]? = some (bestL (ckA a o.c) (wout (usL a) set)) ∧ PIn a o (set ++ [bestL (ckA a o.c) (wout (usL a) set)]) := by
  have hn := h.lt hlt
  have hA := h.add hn
  obtain ⟨i, e1, e2⟩ := (best_rk (ckA a o.c) (usL a) set).2 (hA.ne hf.ndU hf.nU hlt)
  rw [← hf.rkE] at e1 e2
  exact ⟨i, e1, e2, fun _ => hA.step hf.ndU hf.nU hlt, fun h' => absurd h' (by omega)⟩
/-- On the way out. -/
structure POut (a : Ar) (o : Od) (set : List Int) : Prop where
  del : o.n.toNat ≤ (onL a).length → DelI (ckA a o.c) (usL a) (onL a) o.n.toNat set
  eq : (onL a).length < o.n.toNat → set = firstSet (ckA a o.c) (usL a) (onL a) o.n.toNat
theorem PIn.fin {a : Ar} {o : Od} {rk set : List Int} (h : PIn a o set) (hf : ChF a o rk) (hlt : ¬ set.length < o.n.toNat) : POut a o set := by
  refine ⟨fun hn => ?_, fun hn => (AddI.fin (h.add (by omega)) hlt hn).symm⟩
  rcases Nat.lt_or_ge o.n.toNat (onL a).length with h1 | h1
  · rw [h.eq h1]
    exact DelI.start hf.ndO hf.sub hn
  · have hA := h.add h1
    have e := hA.eq
    have e0 : (onL a).length = o.n.toNat := by omega
    have hle := hA.le
    rw [show o.n.toNat - set.length = 0 by omega, show o.n.toNat - (onL a).length = 0 by omega] at e
    have e' : set = onL a := e
    rw [e']
    exact DelI.start hf.ndO hf.sub hn
theorem POut.lt {a : Ar} {o : Od} {rk set : List Int} (h : POut a o set) (hf : ChF a o rk) (hlt : o.n.toNat < set.length) : o.n.toNat ≤ (onL a).length := by
  rcases Nat.lt_or_ge (onL a).length o.n.toNat with h1 | h1
  · have e := h.eq h1
    have := (first_spec (c := ckA a o.c) hf.ndU hf.ndO hf.sub hf.nU).2.1
    rw [← e] at this
    omega
  · exact h1
theorem POut.len {a : Ar} {o : Od} {rk set : List Int} (h : POut a o set) (hf : ChF a o rk) : set.length ≤ 16 := by
  have := hf.on
  have := hf.n0
  rcases Nat.lt_or_ge (onL a).length o.n.toNat with h1 | h1
  · have e := h.eq h1
    have := (first_spec (c := ckA a o.c) hf.ndU hf.ndO hf.sub hf.nU).2.1
    rw [← e] at this
    omega
  · have hd := h.del h1
    have := nodup_len hd.fair.nd hd.fair.sub
    have := hf.us
    omega
theorem POut.step {a : Ar} {o : Od} {rk set : List Int} (h : POut a o set) (hf : ChF a o rk) (hlt : o.n.toNat < set.length) :
    lastIn set (-1) rk = worstL (ckA a o.c) set ∧ (wout set [worstL (ckA a o.c) set]).length + 1 = set.length ∧ POut a o (wout set [worstL (ckA a o.c) set]) := by
  have hn := h.lt hf hlt
  have hd := h.del hn
  have hne : set ≠ [] := by intro e; rw [e] at hlt; simp at hlt
  have e := worst_rk (c := ckA a o.c) (U := usL a) hd.fair.sub
  unfold worstI at e
  rw [← hf.rkE] at e
  have hl := wout_one_len hd.fair.nd (worstL_spec (c := ckA a o.c) hne).1
  exact ⟨e, hl, fun _ => hd.step hlt, fun h' => absurd h' (by omega)⟩
theorem POut.fin {a : Ar} {o : Od} {rk set : List Int} (h : POut a o set) (hf : ChF a o rk) (hlt : ¬ o.n.toNat < set.length) : set = firstSet (ckA a o.c) (usL a) (onL a) o.n.toNat := by
  rcases Nat.lt_or_ge (onL a).length o.n.toNat with h1 | h1
  · exact h.eq h1
  · exact (DelI.fin (h.del h1) hlt (by omega)).symm
/-- Between two exchanges. -/
theorem ex_start {a : Ar} {o : Od} {rk set : List Int} (hf : ChF a o rk) (h : set = firstSet (ckA a o.c) (usL a) (onL a) o.n.toNat) : ExI (ckA a o.c) (usL a) (onL a) o.n.toNat a.lim ((onL a).length + 1) set := by
  rw [h]
  exact ExI.start hf.ndU hf.ndO hf.sub hf.nU
theorem ex_chg {a : Ar} {o : Od} {rk set : List Int} (hf : ChF a o rk) (h : set = firstSet (ckA a o.c) (usL a) (onL a) o.n.toNat) : (chgN (onL a) set : Int) = absI (o.n - (onL a).length) := by
  rw [h, (first_spec (c := ckA a o.c) hf.ndU hf.ndO hf.sub hf.nU).2.2]
  have := hf.n0
  unfold absI
  omega
end Go.Proofs.YtafnebfchhmgcaaGreat
/- choice: appending to the set, deleting from it. -/
namespace Go.Proofs.YtafnebfchhmgcaaGreat
open Go.RowKit Go.Sort Go.Shelf
set_option linter.unusedSimpArgs false
set_option linter.unusedVariables false
attribute [local go_sem] cell_if frozen_if grow_cell
theorem Ex.of_grown {X : List Nat} {w w' : World} {row : Option Nat} (h : w.grownBy w' row) (hr : ∀ r, row = some r → r ∈ X) : Ex X w w' :=
  ⟨h.os, h.tape, h.output, h.size, fun k hk hn => h.block k hk (fun e => hn (hr k e.symm))⟩
theorem Ex.trans {X : List Nat} {a b c : World} (h : Ex X a b) (k : Ex X b c) : Ex X a c :=
  ⟨k.os.trans h.os, k.tape.trans h.tape, k.output.trans h.output, Nat.le_trans h.size k.size, fun i hi hn => (k.block i (Nat.lt_of_lt_of_le hi h.size) hn).trans (h.block i hi hn)⟩
theorem Ex.of_below {X : List Nat} {a b : World} (h : Below a.heap.size a b) : Ex X a b := (Ex.refl X a).grown h
/-- append of a literal's elements, wherever the literal lies. -/
theorem wp_appB {P : Program} {o : Oper} {a : Act} {K : Act → World → Prop} {Q : Exit → Act → World → Prop} {w : World} (t e size bytes : Nat) (E : Elem P t e size bytes) (s x : Operand)
    (ho : o.op = .call { callee := .builtin .append, args := #[s, x], argTypes := #[t, t] }) (base : Nat) (v : Value) (n : Nat) (xs : List Value) (hs : a.eval s = v) (hown : w.ownsRow base e size v n xs) (bl m : Nat) (cs : Array Value) (hx : a.eval x = .slice (some ⟨bl, 0, none⟩) m m)
    (hbl : Blk w bl e cs) (hl : cs.size = m * size) (h1 : ∀ u ∈ cs.toList, u.oneCell' = true) (hm : 0 < m) (h63 : n + m ≤ maxLen) (hbytes : (n + m) * bytes ≤ 140737488355328) (hbase : base ≤ w.heap.size)
    (h : ∀ g cap w', Own w' base e size g (n + m) cap (xs ++ cs.toList) → w.grownBy w' v.ownBlock → (v.ownBlock = some g ∨ g = w.heap.size) → K (a.put o.dst (.slice (some ⟨g, 0, none⟩) (n + m) cap)) w') : o.wp P a w K Q := by
  obtain ⟨ht, ⟨i, z, h1', h2', h3', h4', h5'⟩, hp⟩ := E
  refine wp_append_lies w s x t ho base e i z size bytes ht h1' h2' h3' h4' h5' hp v n xs hs hown ⟨bl, 0, none⟩ m m cs.toList hx (by simpa using hl) (fun j u hu => ?_) h1 hm h63 hbytes hbase _ rfl ?_
  · rw [Addr.add_lit, hbl.cell]
    simpa using hu
  · intro g cap w' hown' hg hat _
    exact h g cap w' hown' hg hat
theorem wpList_appB {P : Program} {ops : Array Oper} {rest : List Oper} {o : Oper} {a : Act} {Q : Exit → Act → World → Prop} {w : World} (t e size bytes : Nat) (E : Elem P t e size bytes) (hgd : o.guard = none) (s x : Operand)
    (ho : o.op = .call { callee := .builtin .append, args := #[s, x], argTypes := #[t, t] }) (base : Nat) (v : Value) (n : Nat) (xs : List Value) (hs : a.eval s = v) (hown : w.ownsRow base e size v n xs) (bl m : Nat) (cs : Array Value) (hx : a.eval x = .slice (some ⟨bl, 0, none⟩) m m)
    (hbl : Blk w bl e cs) (hl : cs.size = m * size) (h1 : ∀ u ∈ cs.toList, u.oneCell' = true) (hm : 0 < m) (h63 : n + m ≤ maxLen) (hbytes : (n + m) * bytes ≤ 140737488355328) (hbase : base ≤ w.heap.size)
    (h : ∀ g cap w', Own w' base e size g (n + m) cap (xs ++ cs.toList) → w.grownBy w' v.ownBlock → (v.ownBlock = some g ∨ g = w.heap.size) → wpList P ops Q rest (a.put o.dst (.slice (some ⟨g, 0, none⟩) (n + m) cap)) w') : wpList P ops Q (o :: rest) a w :=
  wpList_plain hgd fun _ hK => wp_appB t e size bytes E s x ho base v n xs hs hown bl m cs hx hbl hl h1 hm h63 hbytes hbase fun g cap w' h2 h3 h4 => hK _ _ (h g cap w' h2 h3 h4)
theorem row_base_lt {w : World} {base e size n : Nat} {v : Value} {xs : List Value} (h : w.ownsRow base e size v n xs) (r : Nat) (hr : v.ownBlock = some r) : base ≤ r ∧ r < w.heap.size := by
  rcases h.2 with ⟨h0, _⟩ | ⟨g2, cap2, cur, hv, hb2, hlt, _⟩
  · rw [h0] at hr; cases hr
  · rw [hv] at hr
    have : g2 = r := by simpa [Value.ownBlock] using hr
    subst this
    exact ⟨hb2, (Array.getElem?_eq_some_iff.1 hlt).1⟩
/-- What an append to the set leaves. -/
theorem app_keeps {W W' : World} {z1 n : Nat} {v : Value} {xs : List Value} (h : W.ownsRow z1 3 1 v n xs) (hz : z1 ≤ W.heap.size) (hg : W.grownBy W' v.ownBlock) : Below z1 W W' ∧ ∀ k t c, t ≠ 3 → Blk W k t c → Blk W' k t c :=
  ⟨(Below.refl z1 W).grown hg hz (fun r e => (row_base_lt h r e).1), fun _ _ _ ht hk => hk.grown hg (fun e => own_ne h hk ht e.symm)⟩
/-- Deleting one from the set. -/
theorem del_row (f : Nat) (ef : Enters Tryz.prog f) (hf : ∀ (x z : Int) (b : Nat) (w : World), w.cell? ⟨b, 0, none⟩ = some (.int .i64 z) → FnGives Tryz.prog f #[.pointer (some ⟨b, 0, none⟩)] #[.int .i64 x] (.bool (x == z)) w)
    {W0 W : World} {z1 bz : Nat} {v : Value} {set : List Int} {z : Int} (s2 : W0.ownsRow z1 3 1 v set.length (set.map (.int .i64))) (hz1 : z1 ≤ W0.heap.size) (hb : Below W0.heap.size W0 W) (hz : Blk W bz 3 #[.int .i64 z]) (hbz : W0.heap.size ≤ bz) (hne : set ≠ []) (hm : set.length ≤ 400) :
    Calls Tryz.prog 138 #[v, .func (.func f) #[] #[.pointer (some ⟨bz, 0, none⟩)]] W fun e w' => ∃ v', e = .returned v' ∧ w'.ownsRow z1 3 1 v' (wout set [z]).length ((wout set [z]).map (.int .i64)) ∧ Below z1 W w' ∧ ∀ k t c, t ≠ 3 → Blk W k t c → Blk w' k t c := by
  rcases s2.2 with ⟨h0, h00⟩ | ⟨g, cap, cur, rfl, hg, hh, h1, h2, h3, h4⟩
  · refine absurd ?_ hne
    cases set with
    | nil => rfl
    | cons x r => simp at h00
  · have hgl : g < W0.heap.size := (Array.getElem?_eq_some_iff.1 hh).1
    have hO : Own W z1 3 1 g set.length cap (intV set) := Own.kept s2 hb
    refine (DelF_any z1 g cap f _ set (fun x => x == z) W hO (by omega) ef ?_).mono ?_
    · intro W' hW' x
      refine hf x z bz W' ?_
      have hk : Blk W' bz 3 #[.int .i64 z] := hz.grown hW' (by intro e; cases e; omega)
      simpa using hk.cell 0
    · rintro e w' ⟨zs, hzs, rfl, hO', hg'⟩
      rw [← wout_one] at hzs
      subst hzs
      refine ⟨_, rfl, hO', (Below.refl z1 W).grown hg' (by have := hb.size; omega) (fun j hj => by cases hj; exact hg), fun k t c ht hk => hk.grown hg' (by
        intro e
        cases e
        have hbl : Blk W g 3 cur := (hb.block g hgl).trans hh
        exact blk_ne hk hbl ht rfl)⟩
/-- The length of the slice in a box. -/
def boxLen (w : World) (b : Nat) : Nat := match w.cell? ⟨b, 0, none⟩ with
  | some (.slice _ n _) => n
  | _ => 0
theorem ChM.boxLen {w : World} {z1 : Nat} {A : Option Addr} {n c : Nat} {a : Ar} {o : Od} {b5 b6 b7 : Nat} {rk set : List Int} {W : World} (h : ChM w z1 A n c a o b5 b6 b7 rk set W) : boxLen W b6 = set.length := by
  obtain ⟨v, s1, s2⟩ := h.sr
  obtain ⟨A', c', rfl, _, _, _⟩ := own_form s2
  have := s1.cell 0
  simp at this
  unfold Go.Proofs.YtafnebfchhmgcaaGreat.boxLen
  rw [this]
end Go.Proofs.YtafnebfchhmgcaaGreat
/- choice: one round of exchanges, in plain words. -/
namespace Go.Proofs.YtafnebfchhmgcaaGreat
open Go.RowKit Go.Sort Go.Shelf
theorem ckA_q {a : Ar} {c : Int} {i : Nat} (h : i < a.m.length) : (ckA a c).ch (i : Int) = (a.m[i]).q := by
  show ((mdAt a i).map Md.q).getD 0 = _
  unfold mdAt
  rw [Int.toNat_natCast, List.getElem?_eq_getElem h]
  rfl
theorem us_nat {a : Ar} {x : Int} (h : x ∈ usL a) : ∃ k : Nat, x = (k : Int) ∧ k < a.m.length := by
  obtain ⟨j, hj, e, _⟩ := mem_idxs.1 h
  exact ⟨j, by rw [e, Nat.zero_add], hj⟩
theorem ex_cases {a : Ar} {o : Od} {rk set : List Int} {f : Nat} (hf : ChF a o rk) (h : ExI (ckA a o.c) (usL a) (onL a) o.n.toNat a.lim f set) :
    (idxP (fun x => !(hasI set x)) 0 rk = -1 ∧ setU a o = set) ∨
    ∃ i k : Nat, idxP (fun x => !(hasI set x)) 0 rk = (i : Int) ∧ rk[i]? = some (k : Int) ∧ k < a.m.length ∧
      ((lastIn set (-1) rk = -1 ∧ setU a o = set) ∨
      ∃ j : Nat, lastIn set (-1) rk = (j : Int) ∧ j < a.m.length ∧ set ≠ [] ∧
        ((¬ ((chgN (onL a) set : Int) + 2 ≤ a.lim) ∧ setU a o = set) ∨
        ((chgN (onL a) set : Int) + 2 ≤ a.lim ∧ 0 ≤ chgC ((ckA a o.c).ch k) ((ckA a o.c).ch j) o.c ∧ setU a o = set) ∨
        ((chgN (onL a) set : Int) + 2 ≤ a.lim ∧ chgC ((ckA a o.c).ch k) ((ckA a o.c).ch j) o.c < 0 ∧ ∃ g, ExI (ckA a o.c) (usL a) (onL a) o.n.toNat a.lim g (exch set j k) ∧ chgN (onL a) (exch set j k) = chgN (onL a) set + 2))) := by
  have hb := best_rk (ckA a o.c) (usL a) set
  have hw := worst_rk (c := ckA a o.c) (U := usL a) h.fair.sub
  unfold worstI at hw
  rw [← hf.rkE] at hb hw
  have hstop : goB (ckA a o.c) (usL a) a.lim (chgN (onL a) set) set = false → setU a o = set := fun hg => h.stop hg
  by_cases hu : wout (usL a) set = []
  · refine .inl ⟨hb.1 hu, hstop ?_⟩
    unfold goB
    rw [hu]
    simp
  · refine .inr ?_
    obtain ⟨i, e1, e2⟩ := hb.2 hu
    obtain ⟨m1, _⟩ := bestL_spec (c := ckA a o.c) hu
    obtain ⟨k, ek, hk⟩ := us_nat (mem_wout.1 m1).1
    refine ⟨i, k, e1, by rw [e2, ek], hk, ?_⟩
    by_cases hs : set = []
    · refine .inl ⟨?_, hstop ?_⟩
      · rw [hw, hs]
        rfl
      · unfold goB
        rw [hs]
        simp
    · refine .inr ?_
      obtain ⟨m2, _⟩ := worstL_spec (c := ckA a o.c) hs
      obtain ⟨j, ej, hj⟩ := us_nat (h.fair.sub _ m2)
      refine ⟨j, by rw [hw, ej], hj, hs, ?_⟩
      by_cases hl : (chgN (onL a) set : Int) + 2 ≤ a.lim
      · refine .inr ?_
        have hn := chg_neg (ckA a o.c) k j
        have hst := strict_iff (ckA a o.c) k j
        by_cases hq : k1 (ckA a o.c) k < k1 (ckA a o.c) j
        · refine .inr ⟨hl, hn.2 hq, ?_⟩
          obtain ⟨g, _, hg1, hg2⟩ := h.step hf.ndO hf.sub (goB_iff.2 ⟨hs, hu, hl, by rw [ek, ej]; exact hst.2 hq⟩)
          rw [ek, ej] at hg1 hg2
          exact ⟨g, hg1, hg2⟩
        · refine .inl ⟨hl, ?_, hstop ?_⟩
          · rcases Int.lt_or_le (chgC ((ckA a o.c).ch k) ((ckA a o.c).ch j) o.c) 0 with h1 | h1
            · exact absurd (hn.1 h1) hq
            · exact h1
          · cases hg : goB (ckA a o.c) (usL a) a.lim (chgN (onL a) set) set with
            | false => rfl
            | true =>
              obtain ⟨_, _, _, g4⟩ := goB_iff.1 hg
              rw [ek, ej] at g4
              exact absurd (hst.1 g4) hq
      · refine .inl ⟨hl, hstop ?_⟩
        cases hg : goB (ckA a o.c) (usL a) a.lim (chgN (onL a) set) set with
        | false => rfl
        | true => exact absurd (goB_iff.1 hg).2.2.1 hl
end Go.Proofs.YtafnebfchhmgcaaGreat
/-
  DERIVED: THE SHELF's CONTRACTS AT THIS DUMP, IN PLAIN WORDS (tools/lay-plain.mjs out of 'TryzShelf.lean', which tools/lay-shelf.mjs wrote): THE SAME DECLARATIONS UNDER THE SAME NAMES: 'import', 'namespace', 'open', 'def', 'theorem' AND NOTHING ELSE: no command of the shelf's: FOR A HAND-IN. Each laying: the table of numbers ('.._ren') and one theorem, a field a fact of the dump's own or the kernel's comparison; each contract: ONE APPLICATION.
-/
namespace Go.Proofs
open Go.Shelf
def Tryz.lays189_ren : Go.Shelf.Ren := ⟨fun | 189 => 142 | 125 => 167 | 257 => 166 | 128 => 197 | 129 => 198 | 294 => 188 | 295 => 189 | 296 => 190 | 297 => 191 | 298 => 192 | 299 => 193 | 216 => 194 | 300 => 195 | 301 => 196 | 328 => 213 | 329 => 214 | 330 => 215 | 331 => 216 | 332 => 217 | 215 => 181 | 343 => 225 | n => n, fun | 28 => 73 | 3 => 3 | 46 => 192 | 0 => 0 | 51 => 127 | 53 => 262 | 4 => 4 | 183 => 253 | 182 => 252 | 131 => 258 | 5 => 5 | 9 => 9 | 218 => 271 | 222 => 275 | 228 => 283 | 229 => 284 | n => n, fun | n => n⟩
theorem Tryz.lays189 : Go.Proofs.Lays.n189 Tryz.prog Tryz.lays189_ren := {
  mixed := by kernel_rfl
  f125 := Tryz.func167.trans (congrArg some (by kernel_rfl))
  f128 := Tryz.func197.trans (congrArg some (by kernel_rfl))
  f129 := Tryz.func198.trans (congrArg some (by kernel_rfl))
  f189 := Tryz.func142.trans (congrArg some (by kernel_rfl))
  f215 := Tryz.func181.trans (congrArg some (by kernel_rfl))
  f216 := Tryz.func194.trans (congrArg some (by kernel_rfl))
  f257 := Tryz.func166.trans (congrArg some (by kernel_rfl))
  f294 := Tryz.func188.trans (congrArg some (by kernel_rfl))
  f295 := Tryz.func189.trans (congrArg some (by kernel_rfl))
  f296 := Tryz.func190.trans (congrArg some (by kernel_rfl))
  f297 := Tryz.func191.trans (congrArg some (by kernel_rfl))
  f298 := Tryz.func192.trans (congrArg some (by kernel_rfl))
  f299 := Tryz.func193.trans (congrArg some (by kernel_rfl))
  f300 := Tryz.func195.trans (congrArg some (by kernel_rfl))
  f301 := Tryz.func196.trans (congrArg some (by kernel_rfl))
  f328 := Tryz.func213.trans (congrArg some (by kernel_rfl))
  f329 := Tryz.func214.trans (congrArg some (by kernel_rfl))
  f330 := Tryz.func215.trans (congrArg some (by kernel_rfl))
  f331 := Tryz.func216.trans (congrArg some (by kernel_rfl))
  f332 := Tryz.func217.trans (congrArg some (by kernel_rfl))
  f343 := Tryz.func225.trans (congrArg some (by kernel_rfl))
  t0 := Tryz.underlying0
  a0 := Tryz.isAgg0
  z0 := Tryz.sizeOf0
  v0 := Tryz.zeroValue0
  t3 := Tryz.underlying3
  a3 := Tryz.isAgg3
  z3 := Tryz.sizeOf3
  v3 := Tryz.zeroValue3
  t4 := Tryz.underlying4
  a4 := Tryz.isAgg4
  z4 := Tryz.sizeOf4
  v4 := Tryz.zeroValue4
  t5 := Tryz.underlying5
  a5 := Tryz.isAgg5
  z5 := Tryz.sizeOf5
  v5 := Tryz.zeroValue5
  t9 := Tryz.underlying9
  a9 := Tryz.isAgg9
  z9 := Tryz.sizeOf9
  v9 := Tryz.zeroValue9
  t28 := Tryz.underlying73
  a28 := Tryz.isAgg73
  z28 := Tryz.sizeOf73
  v28 := Tryz.zeroValue73
  t46 := Tryz.underlying192
  a46 := Tryz.isAgg192
  z46 := Tryz.sizeOf192
  v46 := Tryz.zeroValue192
  t51 := Tryz.underlying127
  a51 := Tryz.isAgg127
  z51 := Tryz.sizeOf127
  v51 := Tryz.zeroValue127
  t53 := Tryz.underlying262
  a53 := Tryz.isAgg262
  z53 := Tryz.sizeOf262
  v53 := Tryz.zeroValue262
  t131 := Tryz.underlying258
  a131 := Tryz.isAgg258
  z131 := Tryz.sizeOf258
  v131 := Tryz.zeroValue258
  t182 := Tryz.underlying252
  a182 := Tryz.isAgg252
  z182 := Tryz.sizeOf252
  v182 := Tryz.zeroValue252
  t183 := Tryz.underlying253
  a183 := Tryz.isAgg253
  z183 := Tryz.sizeOf253
  v183 := Tryz.zeroValue253
  t218 := Tryz.underlying271
  a218 := Tryz.isAgg271
  z218 := Tryz.sizeOf271
  v218 := Tryz.zeroValue271
  t222 := Tryz.underlying275
  a222 := Tryz.isAgg275
  z222 := Tryz.sizeOf275
  v222 := Tryz.zeroValue275
  t228 := Tryz.underlying283
  a228 := Tryz.isAgg283
  z228 := Tryz.sizeOf283
  v228 := Tryz.zeroValue283
  t229 := Tryz.underlying284
  a229 := Tryz.isAgg284
  z229 := Tryz.sizeOf284
  v229 := Tryz.zeroValue284 }
open Go.Sort Go.RowKit in
theorem Tryz.slices_Sort_int (blk off cap : Nat) (zs : List Int) (w : World) (hH : Holds (Value.int .i64) w blk off zs.toArray) (hblk : blk < w.heap.size) (hsz : zs.length < 4611686018427387904) :
    Calls Tryz.prog 142 #[.slice (some ⟨blk, off, none⟩) zs.length cap] w fun e w' =>
      e = .returned (.tuple #[]) ∧ ∃ n os, w' = grow (putRow (Value.int .i64) (Sort.ahead w n) blk off (zs.mergeSort fun x y => decide (x ≤ y)).toArray) os := Any.slices_Sort_int Tryz.lays189 blk off cap zs w hH hblk hsz
open Go.RowKit Go.Sort in
/-- .. and plain. (LAID: no walk: one application.) -/
theorem Tryz.slices_Sort_int_none (p : Option Addr) (cap : Nat) (w : World) :
    Calls Tryz.prog 142 #[.slice p 0 cap] w fun e w' => e = .returned (.tuple #[]) ∧ w' = w := Any.slices_Sort_int_none Tryz.lays189 p cap w
end Go.Proofs
/- Library: slices.Sort on a row of integers of the call's own. -/
namespace Go.Proofs.YtafnebfchhmgcaaGreat
open Go.RowKit Go.Sort Go.Shelf
set_option linter.unusedSimpArgs false
set_option linter.unusedVariables false
attribute [local go_sem] cell_if frozen_if grow_cell
theorem Sort_any (base g l cap : Nat) (xs : List Int) (w : World) (h : Own w base 3 1 g l cap (intV xs)) (hx : xs.length ≤ 1000) :
    Calls Tryz.prog 142 #[.slice (some ⟨g, 0, none⟩) l cap] w fun e w' => e = .returned (.tuple #[]) ∧ Own w' base 3 1 g l cap (intV (sortI xs)) ∧ w.grownBy w' (some g) := by
  obtain ⟨hl, h2⟩ := h
  obtain rfl : l = xs.length := by simpa [intV] using hl.symm
  rcases h2 with ⟨h0, _⟩ | ⟨g', cap', cur, hv, hbase, hb, h1, h2, h3, h4⟩
  · cases h0
  · injection hv with e1 e2 e3
    injection e1 with e1
    injection e1 with e1
    subst e1
    subst e3
    have hlt := (Array.getElem?_eq_some_iff.1 hb).1
    have hr := Tryz.slices_Sort_int g 0 cap xs w (holds_of_blockI hb (by simpa [intV] using h4)) hlt (by omega)
    refine hr.mono ?_
    rintro e w' ⟨rfl, n, os, rfl⟩
    rw [merge_sortI]
    exact ⟨rfl, ownsRow_sortedI (sortI_perm xs).length_eq hbase hb h1 h2 h3, grownBy_sortedI (w := w) (g := g) (n := n) (os := os) (sortI xs).toArray⟩
/-- The like for a row that may be nil. -/
theorem SortV_any (base : Nat) (v : Value) (xs : List Int) (w : World) (h : w.ownsRow base 3 1 v xs.length (xs.map (.int .i64))) (hb : base ≤ w.heap.size) (hx : xs.length ≤ 1000) :
    Calls Tryz.prog 142 #[v] w fun e w' => e = .returned (.tuple #[]) ∧ w'.ownsRow base 3 1 v xs.length ((sortI xs).map (.int .i64)) ∧ Below base w w' ∧ ∀ k t c, t ≠ 3 → Blk w k t c → Blk w' k t c := by
  rcases h.2 with ⟨rfl, h0⟩ | ⟨g, cap, cur, rfl, hg, hh, r⟩
  · have e0 : xs = [] := by
      cases xs with
      | nil => rfl
      | cons x r => simp at h0
    subst e0
    refine (Tryz.slices_Sort_int_none none 0 w).mono ?_
    rintro e w' ⟨rfl, rfl⟩
    exact ⟨rfl, h, Below.refl _ _, fun _ _ _ _ hk => hk⟩
  · refine (Sort_any base g xs.length cap xs w h hx).mono ?_
    rintro e w' ⟨rfl, hO, hgr⟩
    have hbl : Blk w g 3 cur := hh
    exact ⟨rfl, hO, (Below.refl base w).grown hgr hb (fun j hj => by cases hj; exact hg), fun k t c ht hk => hk.grown hgr (by
      intro e
      cases e
      exact blk_ne hk hbl ht rfl)⟩
end Go.Proofs.YtafnebfchhmgcaaGreat
