/- Guaranteed of the program. -/
import Derived.Test.YtjanojmgnpfjeaaGreatDoorQd
import Derived.Test.YtjanojmgnpfjeaaGreatDoorQh
import Derived.Deep.DeepCutAuto
import Derived.Deep.CutBlock
namespace Go.Proofs.YtjanojmgnpfjeaaGreatDoor
open Go.RowKit Go.Sort Go.Shelf
set_option linter.unusedSimpArgs false
set_option linter.unusedVariables false
attribute [local go_sem] cell_if frozen_if grow_cell
attribute [local go_sem] Oper.semAt_some
theorem hit_all {a : Ar} {n : Nat} {m : Int} (hl : a.m.length = n) (h : ∀ x ∈ uTo a.m n, hitB a m x.m = false) : a.m.any (hitB a m) = false := by
  rw [List.any_eq_false]
  intro x hx
  obtain ⟨i, hi, e⟩ := List.getElem_of_mem hx
  cases hb : x.by_ with
  | true => unfold hitB; rw [hb]; simp
  | false =>
    have hin : ∀ k, i < k → k ≤ a.m.length → ∃ y ∈ uTo a.m k, y.k = i := by
      intro k
      induction k with
      | zero => intro h; omega
      | succ k ih =>
        intro h1 h2
        show ∃ y ∈ uTo a.m k ++ oneU a.m k, y.k = i
        by_cases hik : i < k
        · obtain ⟨y, hy, hyk⟩ := ih hik (by omega)
          exact ⟨y, List.mem_append_left _ hy, hyk⟩
        · have hki : k = i := by omega
          subst hki
          rw [oneU_yes hi (by rw [e]; exact hb)]
          exact ⟨_, List.mem_append_right _ (List.mem_singleton.2 rfl), rfl⟩
    obtain ⟨y, hy, hyk⟩ := hin n (by omega) (by omega)
    have hm : y.m = x := by
      show a.m[y.k]'y.h = x
      rw [← e]
      congr 1
    have := h y hy
    rw [hm] at this
    rw [this]
    decide
theorem guar_hit {a : Ar} {f k : Nat} (h : a.m.any (hitB a (((k : Int) + 1) * a.cur)) = true) : guarGo a (f + 1) k = k := by
  show (if _ then _ else _) = _
  rw [h, if_pos rfl]
theorem guar_next {a : Ar} {f k : Nat} (h : a.m.any (hitB a (((k : Int) + 1) * a.cur)) = false) : guarGo a (f + 1) k = guarGo a f (k + 1) := by
  show (if _ then _ else _) = _
  rw [h, if_neg (by decide)]
theorem mark_ne {Ds : List Nat} {W : World} {k : Nat} {t : TypeId} {c : Array Value} (h : Marked Ds W) (hk : Blk W k t c) : k ∉ Ds := fun hm => by
  have := h k hm
  rw [show W.heap[k]? = _ from hk] at this
  cases this
/-- What lies in memory between two numbers of steps. -/
structure GuM (w : World) (b5 n c : Nat) (A : Option Addr) (a : Ar) (W : World) : Prop where
  arm : Blk W w.heap.size 36 #[.slice A n c, .int .i64 a.lo, .int .i64 a.hi, .int .i64 a.cur, .int .i64 a.lim]
  r1 : Blk W (w.heap.size + 1) 3 #[.int .i64 0]
  r2 : Blk W (w.heap.size + 1 + 1) 31 #[.int .i64 0]
  ends : Blk W b5 173 #[.int .i64 a.lo, .int .i64 a.hi]
  low : Below w.heap.size w W
  le : b5 + 1 ≤ W.heap.size
theorem GuM.grown {w : World} {b5 n c : Nat} {A : Option Addr} {a : Ar} {U V : World} {row : Option Nat} (hs : GuM w b5 n c A a U) (hz : w.heap.size ≤ b5) (hg : U.grownBy V row) (hr : ∀ r, row = some r → b5 + 1 ≤ r ∧ ∀ t c, ¬ Blk U r t c) : GuM w b5 n c A a V := by
  have hk : ∀ {k t cs}, Blk U k t cs → Blk V k t cs := fun h => (hg.block _ h.lt (fun e => (hr _ e.symm).2 _ _ h)).trans h
  exact ⟨hk hs.arm, hk hs.r1, hk hs.r2, hk hs.ends, hs.low.grown hg (by have := hs.le; omega) (fun j hj => by have := (hr j hj).1; omega), Nat.le_trans hs.le hg.size⟩
theorem GuM.kept {w : World} {b5 n c : Nat} {A : Option Addr} {a : Ar} {U V : World} (hs : GuM w b5 n c A a U) (hz : w.heap.size ≤ b5) (hb : Below U.heap.size U V) : GuM w b5 n c A a V :=
  hs.grown hz (grown_of_below hb) (fun r e => by cases e)
/-- Between two modules. -/
structure GuI (w : World) (b5 n c p6 : Nat) (A : Option Addr) (a : Ar) (Ds : List Nat) (k : Nat) (m : Int) (pre : List (Us a.m)) (W : World) : Prop where
  mem : GuM w b5 n c A a W
  bk : Blk W p6 3 #[.int .i64 (k : Int)]
  bn : Blk W (p6 + 1) 3 #[.int .i64 m]
  no : ∀ x ∈ pre, hitB a m x.m = false
  mrk : Marked Ds W
  le : p6 + 1 + 1 + 1 ≤ W.heap.size
/-- Where a module is hit. -/
structure GuX (w : World) (Ds : List Nat) (a : Ar) (k : Nat) (m : Int) (W : World) : Prop where
  r1 : Blk W (w.heap.size + 1) 3 #[.int .i64 (k : Int)]
  r2 : Blk W (w.heap.size + 1 + 1) 31 #[.int .i64 0]
  low : Below w.heap.size w W
  hit : a.m.any (hitB a m) = true
  mrk : Marked Ds W
set_option maxRecDepth 100000 in
set_option maxHeartbeats 8000000 in
theorem Guaranteed_any (B : Nat) (A : Option Addr) (n c : Nat) (a : Ar) (w : World) (hM : MsAt w B A n a.m) (hB : B ≤ w.heap.size) (hF : FitA a) (hnc : n ≤ c) (hE : armE a = 0) :
    Calls Tryz.prog 55 #[.agg #[.slice A n c, .int .i64 a.lo, .int .i64 a.hi, .int .i64 a.cur, .int .i64 a.lim]] w fun e w' => e = .returned (.tuple #[.int .i64 (guarL a : Int), .int .i64 0]) ∧ Below w.heap.size w w' := by
  have hl0 := (md_at hM).1
  have hFit := fit_of hE
  have h17 := hF.len
  have HC := Lib.hid (fun W (hW : Below w.heap.size w W) => CheckArm_any B A n c a W (hM.below (hW.mono hB)) (by have := hW.size; omega) hF hnc)
  rw [hE] at HC
  have HFit := Lib.hid hFit
  refine (callsIn_wide (n := 9)).1 ?_
  refine callsIn_of_wp_marks Tryz.func55 rfl trivial ?_ rfl
  refine wpIn_wide.2 ?_
  simp only [Tryz.ntmps55, List.size_toArray, List.length_cons, List.length_nil, Nat.reduceAdd, Nat.reduceSub, Array.replicate_succ, Array.replicate_zero, List.push_toArray, List.append_toArray, List.nil_append, List.cons_append]
  go_wp2_with fail
  refine (HC.out _ bl_).mono ?_
  (rintro e w1 ⟨rfl, hb1⟩; have hs1 := hb1.size; (try simp at hs1))
  have bA1 : Blk w1 w.heap.size 36 #[.slice A n c, .int .i64 a.lo, .int .i64 a.hi, .int .i64 a.cur, .int .i64 a.lim] := bk_
  have bR1 : Blk w1 (w.heap.size + 1) 3 #[.int .i64 0] := bk_
  have bR2 : Blk w1 (w.heap.size + 1 + 1) 31 #[.int .i64 0] := bk_
  have HB1 := Lib.hid (bl_ : Below w.heap.size w w1)
  have hs01 := HB1.out.size
  have cA := bA1.cell
  have lA := bA1.lt
  have hal : Below w1.heap.size w1 (w1.alloc (.cells #[.int .i64 a.lo, .int .i64 a.hi] 173)) := (Below.refl _ _).alloc (Nat.le_refl _) _
  have HM1 : Hid (GuM w w1.heap.size n c A a (w1.alloc (.cells #[.int .i64 a.lo, .int .i64 a.hi] 173))) := Lib.hid ⟨bA1.kept hal, bR1.kept hal, bR2.kept hal, Blk.new _ _ _, HB1.out.trans (hal.mono (by omega)), by simp⟩
  clear hb1 hal
  go_upto_block 0 with fail
  clear cA lA bA1 bR1 bR2
  have hcu := HFit.out.cur
  have hlo := HFit.out.lo
  have hhi := HFit.out.hi
  have HMs := Lib.hid hM
  have hb5 : w.heap.size + 1 + 1 + 1 ≤ w1.heap.size := by have := hs1; simpa using this
  clear hM hF hE hFit HC
  generalize w1.alloc _ = W0 at *
  generalize w1.heap.size = b5 at *
  go_wp2_with fail
  refine wp_loop (fun a' wr => ∃ (k : Nat) (Ds : List Nat) (u6 u7 u8 u9 u10 u24 u25 u26 u27 u28 u29 u30 u31 u32 u33 u34 u35 u36 u37 u38 u39 u40 u41 u42 u43 u44 u45 u46 u47 u48 u49 u50 u51 u52 u53 u54 u55 u56 u57 u58 u59 u60 u61 u62 : Value), a' = { tmps := #[.agg #[.slice A n c, .int .i64 a.lo, .int .i64 a.hi, .int .i64 a.cur, .int .i64 a.lim], .pointer (some ⟨w.heap.size, 0, none⟩), .pointer (some ⟨w.heap.size + 1, 0, none⟩), .pointer (some ⟨w.heap.size + 1 + 1, 0, none⟩), .int .i64 0, .pointer (some ⟨b5, 0, none⟩), u6, u7, u8, u9, u10, .agg #[.slice A n c, .int .i64 a.lo, .int .i64 a.hi, .int .i64 a.cur, .int .i64 a.lim], .int .i64 0, .int .i64 0, .bool false, undef, .pointer (some ⟨w.heap.size, 1, none⟩), .pointer (some ⟨w.heap.size, 1, none⟩), .int .i64 a.lo, .pointer (some ⟨w.heap.size, 1, none⟩), .pointer (some ⟨w.heap.size, 2, none⟩), .int .i64 a.hi, .agg #[.int .i64 a.lo, .int .i64 a.hi], .int .i64 (k : Int), u24, u25, u26, u27, u28, u29, u30, u31, u32, u33, u34, u35, u36, u37, u38, u39, u40, u41, u42, u43, u44, u45, u46, u47, u48, u49, u50, u51, u52, u53, u54, u55, u56, u57, u58, u59, u60, u61, u62], defers := marks Ds } ∧ k ≤ 256 ∧ GuM w b5 n c A a wr ∧ Hid (guarL a = guarGo a (256 - k) k) ∧ Marked Ds wr ∧ Ds.Nodup ∧ ∀ D ∈ Ds, w.heap.size ≤ D) (fun a' _ => 256 - (intOf (a'.tmps.getD 23 undef)).toNat) ?start ?round
  case start =>
    refine ⟨0, [], ?_⟩
    (repeat apply Exists.intro)
    exact ⟨rfl, by omega, HM1.out, Lib.hid rfl, fun D hD => by simp at hD, List.nodup_nil, fun D hD => by simp at hD⟩
  case round =>
    rintro a' wr ⟨k, Ds, u6, u7, u8, u9, u10, u24, u25, u26, u27, u28, u29, u30, u31, u32, u33, u34, u35, u36, u37, u38, u39, u40, u41, u42, u43, u44, u45, u46, u47, u48, u49, u50, u51, u52, u53, u54, u55, u56, u57, u58, u59, u60, u61, u62, rfl, hk, hM', hgu, hDs, hDn, hDb⟩
    have hle' := hM'.le
    by_cases hlt : k < 256
    · have c1 := hM'.arm.cell
      have l1 := hM'.arm.lt
      have hlt' : (k : Int) < 256 := by omega
      obtain ⟨m, hm⟩ : ∃ m, ((k : Int) + 1) * a.cur = m := ⟨_, rfl⟩
      have hmb : 0 ≤ m ∧ m ≤ 256000 := by
        have e := Int.natAbs_mul ((k : Int) + 1) a.cur
        have h1 := Nat.mul_le_mul (show ((k : Int) + 1).natAbs ≤ 256 by omega) (show a.cur.natAbs ≤ 1000 by omega)
        have h2 : 0 ≤ ((k : Int) + 1) * a.cur := Int.mul_nonneg (by omega) (by omega)
        rw [hm] at e h2
        omega
      have hw1 : IntKind.i64.wrap ((k : Int) + 1) = (k : Int) + 1 := by rw [IntKind.wrap_i64]; omega
      have hw2 : IntKind.i64.wrap (((k : Int) + 1) * a.cur) = m := by rw [hm, IntKind.wrap_i64]; omega
      have HMk := Lib.hid hm
      have HM' := Lib.hid hM'
      clear hm hM'
      go_wp2_with fail
      refine (usable_any _ _ _ _ _).mono ?_
      rintro e wb ⟨rfl, hwb⟩
      have hbw : Below wr.heap.size wr wb := by rw [← hwb]; exact bl_
      have b6 : Blk wb wr.heap.size 3 #[.int .i64 (k : Int)] := by rw [← hwb]; exact bk_
      have b7 : Blk wb (wr.heap.size + 1) 3 #[.int .i64 m] := by rw [← hwb]; exact bk_
      have b8 : Blk wb (wr.heap.size + 1 + 1) 36 #[.slice A n c, .int .i64 a.lo, .int .i64 a.hi, .int .i64 a.cur, .int .i64 a.lim] := by rw [← hwb]; exact bk_
      have hsb : wb.heap.size = wr.heap.size + 1 + 1 + 1 := by rw [← hwb]; simp
      have hMb := HM'.out.kept (by omega) hbw
      have hR0 := HMs.out.below (hMb.low.mono hB)
      have hD0 : Marked Ds wb := hDs.kept hbw
      clear hwb hbw c1 l1
      simp only [World.size_alloc]
      go_wp2_with fail
      generalize wr.heap.size = p6 at *
      refine (wpIn_wide (n := 9)).1 ?_
      refine wpIn_rangeFunc_ownH rfl (by omega) (gf := 125) (lb := #[.pointer (some ⟨p6 + 1 + 1, 0, none⟩)]) rfl trivial (enters_of Tryz.func125 (by kernel_rfl) rfl)
        (us_stops 8 (p6 + 1 + 1) B A n c a wb (by omega) hR0 (by omega) (by omega) b8) KpU.t (KpU.b (by omega) (by omega)) (Below.refl _ _) (fun _ => rfl)
        (fun pre W => GuI w b5 n c p6 A a Ds k m pre W)
        (fun cd _ W => cd = Code.ret ∧ GuX w Ds a k m W)
        ?own ?ownX ?start
        (fun x a' W => ∃ q, a' = { tmps := #[.agg #[.slice A n c, .int .i64 a.lo, .int .i64 a.hi, .int .i64 a.cur, .int .i64 a.lim], .pointer (some ⟨w.heap.size, 0, none⟩), .pointer (some ⟨w.heap.size + 1, 0, none⟩), .pointer (some ⟨w.heap.size + 1 + 1, 0, none⟩), .int .i64 0, .pointer (some ⟨b5, 0, none⟩), .pointer (some ⟨p6, 0, none⟩), .pointer (some ⟨p6 + 1, 0, none⟩), u8, .pointer (some ⟨q, 0, none⟩), u10, .agg #[.slice A n c, .int .i64 a.lo, .int .i64 a.hi, .int .i64 a.cur, .int .i64 a.lim], .int .i64 0, .int .i64 0, .bool false, undef, .pointer (some ⟨w.heap.size, 1, none⟩), .pointer (some ⟨w.heap.size, 1, none⟩), .int .i64 a.lo, .pointer (some ⟨w.heap.size, 1, none⟩), .pointer (some ⟨w.heap.size, 2, none⟩), .int .i64 a.hi, .agg #[.int .i64 a.lo, .int .i64 a.hi], .int .i64 (k : Int), .bool true, .int .i64 (k : Int), .int .i64 (k : Int), .int .i64 ((k : Int) + 1), .pointer (some ⟨w.heap.size, 3, none⟩), .int .i64 a.cur, .int .i64 m, .agg #[.slice A n c, .int .i64 a.lo, .int .i64 a.hi, .int .i64 a.cur, .int .i64 a.lim], .func (.func 125) #[] #[.pointer (some ⟨p6 + 1 + 1, 0, none⟩)], .int .i64 (x.k : Int), .agg #[.string x.m.n, .int .i64 x.m.q, .bool x.m.on, .bool x.m.by_], u35, u36, u37, u38, u39, u40, u41, u42, u43, u44, u45, u46, u47, u48, u49, u50, u51, u52, u53, u54, u55, u56, u57, u58, u59, u60, u61, u62], defers := [] } ∧ wb.heap.size ≤ q ∧ Blk W q 107 #[.string x.m.n, .int .i64 x.m.q, .bool x.m.on, .bool x.m.by_]) ?ownA ?assign ?body ?done ?stop
      case own =>
        intro pre U V row hs hg hr
        have hk : ∀ {k t cs}, Blk U k t cs → Blk V k t cs := fun h => (hg.block _ h.lt (fun e => no_blk (hr _ e.symm).2 _ _ h)).trans h
        exact ⟨hs.mem.grown (by omega) hg (fun r e => ⟨by have := (hr r e).1; omega, no_blk (hr r e).2⟩), hk hs.bk, hk hs.bn, hs.no, fun D hD => (hg.block D (hs.mrk.lt hD) (fun e => by have := (hr D e.symm).1; have := hD0.lt hD; omega)).trans (hs.mrk D hD), Nat.le_trans hs.le hg.size⟩
      case ownX =>
        intro cd pre U V row hs hg hr
        have hk : ∀ {k t cs}, Blk U k t cs → Blk V k t cs := fun h => (hg.block _ h.lt (fun e => no_blk (hr _ e.symm).2 _ _ h)).trans h
        exact ⟨hs.1, hk hs.2.r1, hk hs.2.r2, hs.2.low.grown hg (by have := hs.2.r1.lt; omega) (fun j hj => by have := (hr j hj).1; omega), hs.2.hit, fun D hD => (hg.block D (hs.2.mrk.lt hD) (fun e => by have := (hr D e.symm).1; have := hD0.lt hD; omega)).trans (hs.2.mrk D hD)⟩
      case start => exact ⟨hMb, b6, b7, fun x hx => by simp at hx, hD0, by omega⟩
      case ownA =>
        rintro x a' _ U V row ⟨q, e, hq, hb⟩ hg hr
        refine ⟨q, e, hq, (hg.block q hb.lt (fun e => ?_)).trans hb⟩
        obtain ⟨_, o, ho, hc⟩ := hr q e.symm
        rw [show U.heap[q]? = _ from hb] at ho
        cases ho
        cases hc
      case assign =>
        rintro l' pre z W K hI hK
        dsimp only [usV]
        gi_wp2
        have hIn : W.grownBy (W.alloc (.cells #[.string z.m.n, .int .i64 z.m.q, .bool z.m.on, .bool z.m.by_] 107)) none := World.grownBy_alloc W _ none
        have hbl : Below W.heap.size W (W.alloc (.cells #[.string z.m.n, .int .i64 z.m.q, .bool z.m.on, .bool z.m.by_] 107)) := bl_
        have hle := hI.le
        refine hK _ _ (KeepsFrom.of_grownBy hIn (fun _ e => by cases e)) (KpU.of (by omega) (by omega) bl_) ⟨hI.mem.kept (by omega) hbl, hI.bk.kept hbl, hI.bn.kept hbl, hI.no, hI.mrk.kept hbl, Nat.le_trans hI.le hbl.size⟩ ⟨W.heap.size, rfl, by omega, Blk.new _ _ _⟩
      case body =>
        rintro l' pre z a' W hl ⟨r, hr⟩ hI ⟨q, rfl, hq, hbq⟩ hlp
        have hzq := HFit.out.q _ z.mem
        have hby := z.by_
        have hmem := z.mem
        have cE := hI.mem.ends.cell
        have lE := hI.mem.ends.lt
        have cQ := hbq.cell
        have lQ := hbq.lt
        have cN := hI.bn.cell
        have lN := hI.bn.lt
        have cK := hI.bk.cell
        have lK := hI.bk.lt
        have cR1 := hI.mem.r1.cell
        have lR1 := hI.mem.r1.lt
        have fR1 := hI.mem.r1.frozen
        have cR2 := hI.mem.r2.cell
        have lR2 := hI.mem.r2.lt
        have fR2 := hI.mem.r2.frozen
        have HI := Lib.hid hI
        have HNo := Lib.hid (fun (hz : hitB a m z.m = false) => (fun x hx => by
          rcases List.mem_append.1 hx with h | h
          · exact hI.no x h
          · rw [List.mem_singleton.1 h]; exact hz : ∀ x ∈ pre ++ [z], hitB a m x.m = false))
        have HHit := Lib.hid (fun (hz : hitB a m z.m = true) => (List.any_eq_true.2 ⟨z.m, hmem, hz⟩ : a.m.any (hitB a m) = true))
        clear hr hI hlp hmem hR0 b6 b7 b8 hMb
        generalize z.m = x at *
        obtain ⟨xn, xq, xo, xb⟩ := x
        dsimp only at cQ hzq hby
        subst hby
        have hhit : hitB a m ⟨xn, xq, xo, false⟩ = (decide (xq - m < a.lo) || decide (a.hi < xq + m)) := rfl
        have hwa : IntKind.i64.wrap (xq - m) = xq - m := by rw [IntKind.wrap_i64]; omega
        have hwb2 : IntKind.i64.wrap (xq + m) = xq + m := by rw [IntKind.wrap_i64]; omega
        have mixed : Tryz.prog.follows .mixedOrders = true := by kernel_rfl
        have e2 : ∀ (d : Nat) (xs ys : Array Value) (w : World), (Op.equalIn (d + 1) 173 (.agg xs) (.agg ys)).run Tryz.prog w = (eqElems d 3 1 xs ys [0, 1]).run Tryz.prog w := fun d xs ys w => run_equalIn_array (P := Tryz.prog) w d _ _ 2 1 xs ys Tryz.underlying173 (by kernel_rfl)
        have hla : w.heap.size ≤ W.heap.size := HI.out.mem.low.size
        rcases Int.lt_or_le a.lo (xq - m) with p1 | p1
        · rcases Int.lt_or_le (xq + m) a.hi with p2 | p2
          · skip
            have HN := Lib.hid (HNo.out (by rw [hhit, decide_eq_false (by omega), decide_eq_false (by omega)]; rfl))
            clear hhit HHit HNo
            gi_wp2
            have hbl : Below W.heap.size W (W.alloc (.cells #[.int .i64 (xq - m), .int .i64 (xq + m)] 173)) := bl_
            exact ⟨KeepsFrom.of_grownBy (World.grownBy_alloc W _ none) (fun _ e => by cases e), KpU.of (by have := HI.out.mem.low.size; omega) (by omega) hbl, HI.out.mem.kept (by omega) hbl, HI.out.bk.kept hbl, HI.out.bn.kept hbl, HN.out, HI.out.mrk.kept hbl, Nat.le_trans HI.out.le hbl.size⟩
          · by_cases q2 : a.hi = xq + m
            · have qb : (a.hi == xq + m) = true := by simpa using q2
              have HN := Lib.hid (HNo.out (by rw [hhit, decide_eq_false (by omega), decide_eq_false (by omega)]; rfl))
              clear hhit HHit HNo
              gi_wp2
              have hbl : Below W.heap.size W (W.alloc (.cells #[.int .i64 (xq - m), .int .i64 (xq + m)] 173)) := bl_
              exact ⟨KeepsFrom.of_grownBy (World.grownBy_alloc W _ none) (fun _ e => by cases e), KpU.of (by have := HI.out.mem.low.size; omega) (by omega) hbl, HI.out.mem.kept (by omega) hbl, HI.out.bk.kept hbl, HI.out.bn.kept hbl, HN.out, HI.out.mrk.kept hbl, Nat.le_trans HI.out.le hbl.size⟩
            · have qb : (a.hi == xq + m) = false := by simpa using q2
              have HH := Lib.hid (HHit.out (by rw [hhit]; simp; omega))
              clear hhit HHit HNo
              gi_wp2
              have k1 := ((HI.out.mem.r1.set_ 0 (.int .i64 (k : Int))).far (p := ⟨w.heap.size + 1 + 1, 0, none⟩) (show w.heap.size + 1 ≠ w.heap.size + 1 + 1 by omega) (.int .i64 0)).alloc (.cells #[.int .i64 (xq - m), .int .i64 a.hi] 173)
              have k2 := ((HI.out.mem.r2.far (p := ⟨w.heap.size + 1, 0, none⟩) (show w.heap.size + 1 + 1 ≠ w.heap.size + 1 by omega) (.int .i64 (k : Int))).set_ 0 (.int .i64 0)).alloc (.cells #[.int .i64 (xq - m), .int .i64 a.hi] 173)
              have e5 : ∀ (V : World) (p : Addr) (u : Value), (V.setCell p u).heap.size = V.heap.size := fun V p u => by simp [World.setCell]
              have k3 := ((HI.out.mem.low.setCell (p := ⟨w.heap.size + 1, 0, none⟩) (show w.heap.size ≤ w.heap.size + 1 by omega) (.int .i64 (k : Int))).setCell (p := ⟨w.heap.size + 1 + 1, 0, none⟩) (show w.heap.size ≤ w.heap.size + 1 + 1 by omega) (.int .i64 0)).alloc (by rw [e5, e5]; omega) (.cells #[.int .i64 (xq - m), .int .i64 a.hi] 173)
              have k4 := ((HI.out.mrk.others (KeepsOthers.setCell _ ⟨w.heap.size + 1, 0, none⟩ (.int .i64 (k : Int)))).others (KeepsOthers.setCell _ ⟨w.heap.size + 1 + 1, 0, none⟩ (.int .i64 0))).kept ((Below.refl _ _).alloc (Nat.le_refl _) (.cells #[.int .i64 (xq - m), .int .i64 a.hi] 173))
              exact ⟨(((KeepsOthers.setCell _ _ _).trans (KeepsOthers.setCell _ _ _)).from _).trans (KeepsFrom.of_grownBy (World.grownBy_alloc _ _ none) (fun _ e => by cases e)), rfl, k1, k2, k3, HH.out, k4⟩
        · by_cases q1 : a.lo = xq - m
          · have qa : (a.lo == xq - m) = true := by simpa using q1
            rcases Int.lt_or_le (xq + m) a.hi with p2 | p2
            · skip
              have HN := Lib.hid (HNo.out (by rw [hhit, decide_eq_false (by omega), decide_eq_false (by omega)]; rfl))
              clear hhit HHit HNo
              gi_wp2
              have hbl : Below W.heap.size W (W.alloc (.cells #[.int .i64 (xq - m), .int .i64 (xq + m)] 173)) := bl_
              exact ⟨KeepsFrom.of_grownBy (World.grownBy_alloc W _ none) (fun _ e => by cases e), KpU.of (by have := HI.out.mem.low.size; omega) (by omega) hbl, HI.out.mem.kept (by omega) hbl, HI.out.bk.kept hbl, HI.out.bn.kept hbl, HN.out, HI.out.mrk.kept hbl, Nat.le_trans HI.out.le hbl.size⟩
            · by_cases q2 : a.hi = xq + m
              · have qb : (a.hi == xq + m) = true := by simpa using q2
                have HN := Lib.hid (HNo.out (by rw [hhit, decide_eq_false (by omega), decide_eq_false (by omega)]; rfl))
                clear hhit HHit HNo
                gi_wp2
                have hbl : Below W.heap.size W (W.alloc (.cells #[.int .i64 (xq - m), .int .i64 (xq + m)] 173)) := bl_
                exact ⟨KeepsFrom.of_grownBy (World.grownBy_alloc W _ none) (fun _ e => by cases e), KpU.of (by have := HI.out.mem.low.size; omega) (by omega) hbl, HI.out.mem.kept (by omega) hbl, HI.out.bk.kept hbl, HI.out.bn.kept hbl, HN.out, HI.out.mrk.kept hbl, Nat.le_trans HI.out.le hbl.size⟩
              · have qb : (a.hi == xq + m) = false := by simpa using q2
                have HH := Lib.hid (HHit.out (by rw [hhit]; simp; omega))
                clear hhit HHit HNo
                gi_wp2
                have k1 := ((HI.out.mem.r1.set_ 0 (.int .i64 (k : Int))).far (p := ⟨w.heap.size + 1 + 1, 0, none⟩) (show w.heap.size + 1 ≠ w.heap.size + 1 + 1 by omega) (.int .i64 0)).alloc (.cells #[.int .i64 (xq - m), .int .i64 a.hi] 173)
                have k2 := ((HI.out.mem.r2.far (p := ⟨w.heap.size + 1, 0, none⟩) (show w.heap.size + 1 + 1 ≠ w.heap.size + 1 by omega) (.int .i64 (k : Int))).set_ 0 (.int .i64 0)).alloc (.cells #[.int .i64 (xq - m), .int .i64 a.hi] 173)
                have e5 : ∀ (V : World) (p : Addr) (u : Value), (V.setCell p u).heap.size = V.heap.size := fun V p u => by simp [World.setCell]
                have k3 := ((HI.out.mem.low.setCell (p := ⟨w.heap.size + 1, 0, none⟩) (show w.heap.size ≤ w.heap.size + 1 by omega) (.int .i64 (k : Int))).setCell (p := ⟨w.heap.size + 1 + 1, 0, none⟩) (show w.heap.size ≤ w.heap.size + 1 + 1 by omega) (.int .i64 0)).alloc (by rw [e5, e5]; omega) (.cells #[.int .i64 (xq - m), .int .i64 a.hi] 173)
                have k4 := ((HI.out.mrk.others (KeepsOthers.setCell _ ⟨w.heap.size + 1, 0, none⟩ (.int .i64 (k : Int)))).others (KeepsOthers.setCell _ ⟨w.heap.size + 1 + 1, 0, none⟩ (.int .i64 0))).kept ((Below.refl _ _).alloc (Nat.le_refl _) (.cells #[.int .i64 (xq - m), .int .i64 a.hi] 173))
                exact ⟨(((KeepsOthers.setCell _ _ _).trans (KeepsOthers.setCell _ _ _)).from _).trans (KeepsFrom.of_grownBy (World.grownBy_alloc _ _ none) (fun _ e => by cases e)), rfl, k1, k2, k3, HH.out, k4⟩
          · have qa : (a.lo == xq - m) = false := by simpa using q1
            rcases Int.lt_or_le (xq + m) a.hi with p2 | p2
            · skip
              have HH := Lib.hid (HHit.out (by rw [hhit]; simp; omega))
              clear hhit HHit HNo
              gi_wp2
              have k1 := ((HI.out.mem.r1.set_ 0 (.int .i64 (k : Int))).far (p := ⟨w.heap.size + 1 + 1, 0, none⟩) (show w.heap.size + 1 ≠ w.heap.size + 1 + 1 by omega) (.int .i64 0)).alloc (.cells #[.int .i64 a.lo, .int .i64 (xq + m)] 173)
              have k2 := ((HI.out.mem.r2.far (p := ⟨w.heap.size + 1, 0, none⟩) (show w.heap.size + 1 + 1 ≠ w.heap.size + 1 by omega) (.int .i64 (k : Int))).set_ 0 (.int .i64 0)).alloc (.cells #[.int .i64 a.lo, .int .i64 (xq + m)] 173)
              have e5 : ∀ (V : World) (p : Addr) (u : Value), (V.setCell p u).heap.size = V.heap.size := fun V p u => by simp [World.setCell]
              have k3 := ((HI.out.mem.low.setCell (p := ⟨w.heap.size + 1, 0, none⟩) (show w.heap.size ≤ w.heap.size + 1 by omega) (.int .i64 (k : Int))).setCell (p := ⟨w.heap.size + 1 + 1, 0, none⟩) (show w.heap.size ≤ w.heap.size + 1 + 1 by omega) (.int .i64 0)).alloc (by rw [e5, e5]; omega) (.cells #[.int .i64 a.lo, .int .i64 (xq + m)] 173)
              have k4 := ((HI.out.mrk.others (KeepsOthers.setCell _ ⟨w.heap.size + 1, 0, none⟩ (.int .i64 (k : Int)))).others (KeepsOthers.setCell _ ⟨w.heap.size + 1 + 1, 0, none⟩ (.int .i64 0))).kept ((Below.refl _ _).alloc (Nat.le_refl _) (.cells #[.int .i64 a.lo, .int .i64 (xq + m)] 173))
              exact ⟨(((KeepsOthers.setCell _ _ _).trans (KeepsOthers.setCell _ _ _)).from _).trans (KeepsFrom.of_grownBy (World.grownBy_alloc _ _ none) (fun _ e => by cases e)), rfl, k1, k2, k3, HH.out, k4⟩
            · skip
              have HH := Lib.hid (HHit.out (by rw [hhit]; simp; omega))
              clear hhit HHit HNo
              gi_wp2
              have k1 := ((HI.out.mem.r1.set_ 0 (.int .i64 (k : Int))).far (p := ⟨w.heap.size + 1 + 1, 0, none⟩) (show w.heap.size + 1 ≠ w.heap.size + 1 + 1 by omega) (.int .i64 0)).alloc (.cells #[.int .i64 a.lo, .int .i64 a.hi] 173)
              have k2 := ((HI.out.mem.r2.far (p := ⟨w.heap.size + 1, 0, none⟩) (show w.heap.size + 1 + 1 ≠ w.heap.size + 1 by omega) (.int .i64 (k : Int))).set_ 0 (.int .i64 0)).alloc (.cells #[.int .i64 a.lo, .int .i64 a.hi] 173)
              have e5 : ∀ (V : World) (p : Addr) (u : Value), (V.setCell p u).heap.size = V.heap.size := fun V p u => by simp [World.setCell]
              have k3 := ((HI.out.mem.low.setCell (p := ⟨w.heap.size + 1, 0, none⟩) (show w.heap.size ≤ w.heap.size + 1 by omega) (.int .i64 (k : Int))).setCell (p := ⟨w.heap.size + 1 + 1, 0, none⟩) (show w.heap.size ≤ w.heap.size + 1 + 1 by omega) (.int .i64 0)).alloc (by rw [e5, e5]; omega) (.cells #[.int .i64 a.lo, .int .i64 a.hi] 173)
              have k4 := ((HI.out.mrk.others (KeepsOthers.setCell _ ⟨w.heap.size + 1, 0, none⟩ (.int .i64 (k : Int)))).others (KeepsOthers.setCell _ ⟨w.heap.size + 1 + 1, 0, none⟩ (.int .i64 0))).kept ((Below.refl _ _).alloc (Nat.le_refl _) (.cells #[.int .i64 a.lo, .int .i64 a.hi] 173))
              exact ⟨(((KeepsOthers.setCell _ _ _).trans (KeepsOthers.setCell _ _ _)).from _).trans (KeepsFrom.of_grownBy (World.grownBy_alloc _ _ none) (fun _ e => by cases e)), rfl, k1, k2, k3, HH.out, k4⟩
      case done =>
        rintro D ys W hD rfl hI hK
        have hno := hit_all hl0 hI.no
        rw [← HMk.out] at hno
        have hgn := guar_next (f := 255 - k) hno
        go_wp2
        refine ⟨⟨k + 1, D :: Ds, ?_⟩, by simp [intOf]; omega⟩
        (repeat apply Exists.intro)
        refine ⟨rfl, by omega, hI.mem, ?_, hI.mrk.cons hK, ?_, ?_⟩
        · rw [hgu.out, show 256 - k = 255 - k + 1 by omega, hgn, show 256 - (k + 1) = 255 - k by omega]
          exact Lib.hid rfl
        · rw [List.nodup_cons]
          exact ⟨fun h => by have := hD0.lt h; omega, hDn⟩
        · intro E hE'
          rcases List.mem_cons.1 hE' with rfl | h
          · omega
          · exact hDb E h
      case stop =>
        rintro D cd pre W hD _ ⟨rfl, hX⟩ hK
        have hit := hX.hit
        rw [← HMk.out] at hit
        have hgk : guarL a = k := by rw [hgu.out, show 256 - k = 255 - k + 1 by omega]; exact guar_hit hit
        have HGk := Lib.hid hgk
        gi_wp2
        refine leaves_marks w.heap.size (D :: Ds) W (List.nodup_cons.2 ⟨fun h => by have := hD0.lt h; omega, hDn⟩) (hX.mrk.cons hK) (fun E hE' => by
          rcases List.mem_cons.1 hE' with rfl | h
          · omega
          · exact hDb E h) fun w' hw' hkk hs => ?_
        have k1 : Blk w' (w.heap.size + 1) 3 #[.int .i64 (k : Int)] := (hkk _ (mark_ne (hX.mrk.cons hK) hX.r1)).trans hX.r1
        have k2 : Blk w' (w.heap.size + 1 + 1) 31 #[.int .i64 0] := (hkk _ (mark_ne (hX.mrk.cons hK) hX.r2)).trans hX.r2
        have ck1 := k1.cell
        have ck2 := k2.cell
        refine ⟨.tuple #[.int .i64 (k : Int), .int .i64 0], by first | rfl | (simp [results, Tryz.results55, go_sem, ck1, ck2]; done), by rw [HGk.out], hX.low.trans hw'⟩
    · obtain rfl : k = 256 := by omega
      have cR1 := hM'.r1.cell
      have lR1 := hM'.r1.lt
      have fR1 := hM'.r1.frozen
      have cR2 := hM'.r2.cell
      have lR2 := hM'.r2.lt
      have fR2 := hM'.r2.frozen
      have k1 := (hM'.r1.set_ 0 (.int .i64 256)).far (p := ⟨w.heap.size + 1 + 1, 0, none⟩) (show w.heap.size + 1 ≠ w.heap.size + 1 + 1 by omega) (.int .i64 0)
      have k2 := (hM'.r2.far (p := ⟨w.heap.size + 1, 0, none⟩) (show w.heap.size + 1 + 1 ≠ w.heap.size + 1 by omega) (.int .i64 256)).set_ 0 (.int .i64 0)
      have k3 := (hM'.low.setCell (p := ⟨w.heap.size + 1, 0, none⟩) (show w.heap.size ≤ w.heap.size + 1 by omega) (.int .i64 256)).setCell (p := ⟨w.heap.size + 1 + 1, 0, none⟩) (show w.heap.size ≤ w.heap.size + 1 + 1 by omega) (.int .i64 0)
      have k4 := (hDs.others (KeepsOthers.setCell _ ⟨w.heap.size + 1, 0, none⟩ (.int .i64 256))).others (KeepsOthers.setCell _ ⟨w.heap.size + 1 + 1, 0, none⟩ (.int .i64 0))
      have K1 := Lib.hid k1
      have K2 := Lib.hid k2
      have K3 := Lib.hid k3
      have K4 := Lib.hid k4
      have HGk : Hid (guarL a = 256) := Lib.hid hgu.out
      clear k1 k2 k3 k4 hM' hDs hgu
      go_wp2_with fail
      refine leaves_marks w.heap.size Ds _ hDn K4.out hDb fun w' hw' hkk hs => ?_
      have q1 : Blk w' (w.heap.size + 1) 3 #[.int .i64 256] := (hkk _ (mark_ne K4.out K1.out)).trans K1.out
      have q2 : Blk w' (w.heap.size + 1 + 1) 31 #[.int .i64 0] := (hkk _ (mark_ne K4.out K2.out)).trans K2.out
      have ck1 := q1.cell
      have ck2 := q2.cell
      refine ⟨.tuple #[.int .i64 256, .int .i64 0], by first | rfl | (simp [results, Tryz.results55, go_sem, ck1, ck2]; done), by rw [HGk.out]; rfl, K3.out.trans hw'⟩
end Go.Proofs.YtjanojmgnpfjeaaGreatDoor
