/- Joined texts: UZ UQ. -/
import Derived.Test.YtafnebfchhmgcaaGreatQf
import Derived.Test.YtafnebfchhmgcaaGreatQc
/- Voltage of the program. -/
namespace Go.Proofs.YtafnebfchhmgcaaGreat
open Go.RowKit Go.Sort Go.Shelf
set_option linter.unusedSimpArgs false
set_option linter.unusedVariables false
attribute [local go_sem] cell_if frozen_if grow_cell
attribute [local go_sem] Oper.semAt_some
def voM (x : Md) : Int := if x.on then x.q else 0
/-- A sum over those that have come. -/
def suTo (f : Md → Int) (l : List Md) (pre : List (Us l)) : Int := (pre.map fun x => f x.m).sum
theorem suTo_snoc (f : Md → Int) (l : List Md) (pre : List (Us l)) (x : Us l) : suTo f l (pre ++ [x]) = suTo f l pre + f x.m := by
  unfold suTo
  rw [List.map_append, List.sum_append]
  simp
theorem suTo_sum (f : Md → Int) {l : List Md} : ∀ k, k ≤ l.length → suTo f l (uTo l k) = sumI (fun x => if x.by_ then 0 else f x) (l.take k)
  | 0, _ => rfl
  | k + 1, h => by
    have ih := suTo_sum f (l := l) k (by omega)
    have hk : k < l.length := by omega
    rw [sumI_take _ hk, ← ih]
    show suTo f l (uTo l k ++ oneU l k) = _
    cases hb : (l[k]).by_ with
    | true => rw [oneU_no hk hb, List.append_nil]; simp
    | false =>
      rw [oneU_yes hk hb, suTo_snoc]
      rfl
theorem suTo_bd {f : Md → Int} {l : List Md} {M : Int} (hf : ∀ x ∈ l, 0 ≤ f x ∧ f x ≤ M) : ∀ pre : List (Us l), 0 ≤ suTo f l pre ∧ suTo f l pre ≤ M * pre.length
  | [] => by simp [suTo]
  | x :: r => by
    have ih := suTo_bd hf r
    have hx := hf _ x.mem
    have e : suTo f l (x :: r) = f x.m + suTo f l r := by simp [suTo]
    rw [e, List.length_cons, Int.natCast_add, Int.mul_add]
    omega
/-- Between two modules: the sum so far, in its box. -/
structure SuI (w : World) (b : Nat) (f : Md → Int) (l : List Md) (pre : List (Us l)) (W : World) : Prop where
  out : Blk W b 3 #[.int .i64 (suTo f l pre)]
  low : Below w.heap.size w W
  le : b + 1 + 1 ≤ W.heap.size
theorem SuI.grown {w : World} {b : Nat} {f : Md → Int} {l : List Md} {pre : List (Us l)} {U V : World} {row : Option Nat} (hs : SuI w b f l pre U) (hb : w.heap.size ≤ b) (hg : U.grownBy V row) (hr : ∀ r, row = some r → b + 1 + 1 ≤ r ∧ ∀ t c, ¬ Blk U r t c) : SuI w b f l pre V := by
  obtain ⟨h1, h4, h5⟩ := hs
  refine ⟨(hg.block _ h1.lt (fun e => (hr _ e.symm).2 _ _ h1)).trans h1, h4.grown hg (by omega) (fun j hj => by have := (hr j hj).1; omega), Nat.le_trans h5 hg.size⟩
def enM (x : Md) : Int := x.q * x.q
theorem vo_bd {a : Ar} (h : Fit a) : ∀ x ∈ a.m, 0 ≤ voM x ∧ voM x ≤ 16384 := fun x hx => by
  have := h.q x hx
  unfold voM
  split <;> omega
theorem en_bd {a : Ar} (h : Fit a) : ∀ x ∈ a.m, 0 ≤ enM x ∧ enM x ≤ 268435456 := fun x hx => by
  obtain ⟨h1, h2⟩ := h.q x hx
  unfold enM
  exact ⟨Int.mul_nonneg h1 h1, Int.le_trans (Int.mul_le_mul h2 h2 h1 (by decide)) (by decide)⟩
theorem sumI_congr {f g : Md → Int} {l : List Md} (h : ∀ x ∈ l, f x = g x) : sumI f l = sumI g l := by
  unfold sumI
  rw [List.map_congr_left h]
theorem vo_sum {a : Ar} (h : Fit a) : sumI (fun x => if x.by_ then 0 else voM x) a.m = voltL a := sumI_congr fun x hx => by
  unfold voM
  cases hb : x.by_ with
  | false => rfl
  | true =>
    cases ho : x.on with
    | false => rfl
    | true => rw [h.cf x hx ho] at hb; cases hb
theorem en_sum {a : Ar} (_ : Fit a) : sumI (fun x => if x.by_ then 0 else enM x) a.m = enerL a := rfl
set_option maxRecDepth 100000 in
set_option maxHeartbeats 4000000 in
theorem Energy_any (B : Nat) (A : Option Addr) (n c : Nat) (a : Ar) (w : World) (hM : MsAt w B A n a.m) (hB : B ≤ w.heap.size) (hF : FitA a) (hnc : n ≤ c) (hE : armE a = 0) :
    Calls Tryz.prog 18 #[.agg #[.slice A n c, .int .i64 a.lo, .int .i64 a.hi, .int .i64 a.cur, .int .i64 a.lim]] w fun e w' => e = .returned (.tuple #[.int .i64 (enerL a), .int .i64 0]) ∧ Below w.heap.size w w' := by
  have hl0 := (md_at hM).1
  have hFit := fit_of hE
  have h17 := hF.len
  have HC := Lib.hid (fun W (hW : Below w.heap.size w W) => CheckArm_any B A n c a W (hM.below (hW.mono hB)) (by have := hW.size; omega) hF hnc)
  rw [hE] at HC
  have hvo := en_bd hFit
  have HFit := Lib.hid hFit
  refine (callsIn_wide (n := 9)).1 ?_
  refine callsIn_of_wp_marks Tryz.func18 rfl trivial ?_ rfl
  refine wpIn_wide.2 ?_
  simp only [Tryz.ntmps18, List.size_toArray, List.length_cons, List.length_nil, Nat.reduceAdd, Nat.reduceSub, Array.replicate_succ, Array.replicate_zero, List.push_toArray, List.append_toArray, List.nil_append, List.cons_append]
  go_wp2_with fail
  refine (HC.out _ bl_).mono ?_
  (rintro e w1 ⟨rfl, hb1⟩; have hs1 := hb1.size; (try simp at hs1))
  have bA1 : Blk w1 w.heap.size 36 #[.slice A n c, .int .i64 a.lo, .int .i64 a.hi, .int .i64 a.cur, .int .i64 a.lim] := bk_
  have HB1 := Lib.hid (bl_ : Below w.heap.size w w1)
  have hs01 := HB1.out.size
  have cA := bA1.cell
  have lA := bA1.lt
  clear hb1
  go_wp2_with fail
  refine (usable_any _ _ _ _ _).mono ?_
  rintro e wb ⟨rfl, hwb⟩
  have hbw1 : Below w1.heap.size w1 wb := by rw [← hwb]; exact bl_
  have hbw : Below w.heap.size w wb := HB1.out.trans (hbw1.mono (by omega))
  have b2 : Blk wb w1.heap.size 3 #[.int .i64 0] := by rw [← hwb]; exact bk_
  have b3 : Blk wb (w1.heap.size + 1) 36 #[.slice A n c, .int .i64 a.lo, .int .i64 a.hi, .int .i64 a.cur, .int .i64 a.lim] := by rw [← hwb]; exact bk_
  have hsb : wb.heap.size = w1.heap.size + 1 + 1 := by rw [← hwb]; simp
  have hR0 := hM.below (hbw.mono hB)
  clear hwb hbw1 cA lA bA1
  simp only [World.size_alloc]
  go_wp2_with fail
  refine (wpIn_wide (n := 9)).1 ?_
  refine wpIn_rangeFunc_ownH rfl (by omega) (gf := 119) (lb := #[.pointer (some ⟨w1.heap.size + 1, 0, none⟩)]) rfl trivial (enters_of Tryz.func119 (by kernel_rfl) rfl)
    (us_stops 8 (w1.heap.size + 1) B A n c a wb (by omega) hR0 (by omega) (by omega) b3) KpU.t (KpU.b (by omega) (by omega)) (Below.refl _ _) (fun _ => rfl)
    (fun pre W => SuI w w1.heap.size enM a.m pre W)
    (fun _ _ _ => False)
    ?own (fun _ _ _ _ _ hs _ _ => hs) ?start
    (fun x a' W => ∃ q, a' = { tmps := #[.agg #[.slice A n c, .int .i64 a.lo, .int .i64 a.hi, .int .i64 a.cur, .int .i64 a.lim], .pointer (some ⟨w.heap.size, 0, none⟩), .int .i64 0, .int .i64 0, .int .i64 0, .pointer (some ⟨w1.heap.size, 0, none⟩), undef, .pointer (some ⟨q, 0, none⟩), .agg #[.slice A n c, .int .i64 a.lo, .int .i64 a.hi, .int .i64 a.cur, .int .i64 a.lim], .int .i64 0, .int .i64 0, .bool false, undef, .agg #[.slice A n c, .int .i64 a.lo, .int .i64 a.hi, .int .i64 a.cur, .int .i64 a.lim], .func (.func 119) #[] #[.pointer (some ⟨w1.heap.size + 1, 0, none⟩)], .int .i64 (x.k : Int), .agg #[.string x.m.n, .int .i64 x.m.q, .bool x.m.on, .bool x.m.by_], undef, undef, undef, undef, undef, undef, undef, undef], defers := [] } ∧ wb.heap.size ≤ q ∧ Blk W q 115 #[.string x.m.n, .int .i64 x.m.q, .bool x.m.on, .bool x.m.by_]) ?ownA ?assign ?body ?done ?stop
  case own =>
    exact fun pre U V row hs hg hr => hs.grown (by omega) hg fun r e => ⟨by have := (hr r e).1; omega, no_blk (hr r e).2⟩
  case start => exact ⟨b2, hbw, by omega⟩
  case ownA =>
    rintro x a' _ U V row ⟨q, e, hq, hb⟩ hg hr
    refine ⟨q, e, hq, (hg.block q hb.lt (fun e => ?_)).trans hb⟩
    obtain ⟨_, o, ho, hc⟩ := hr q e.symm
    rw [show U.heap[q]? = _ from hb] at ho
    cases ho
    cases hc
  case assign =>
    rintro l' pre z W K hI hK
    dsimp only [usV]
    gi_wp2
    have hIn : W.grownBy (W.alloc (.cells #[.string z.m.n, .int .i64 z.m.q, .bool z.m.on, .bool z.m.by_] 115)) none := World.grownBy_alloc W _ none
    have hle := hI.le
    refine hK _ _ (KeepsFrom.of_grownBy hIn (fun _ e => by cases e)) (KpU.of (by omega) (by omega) bl_) (hI.grown (by omega) hIn (fun _ e => by cases e)) ⟨W.heap.size, rfl, by omega, Blk.new _ _ _⟩
  case body =>
    rintro l' pre z a' W hl ⟨r, hr⟩ hI ⟨q, rfl, hq, hbq⟩ hlp
    obtain ⟨ho, hlow, hle⟩ := hI
    have HS := Lib.hid (suTo_snoc enM a.m pre z)
    obtain ⟨s1, s2⟩ := suTo_bd hvo pre
    have hzq := HFit.out.q _ z.mem
    have hzf := hvo _ z.mem
    have hby := z.by_
    have cQ := hbq.cell
    have lQ := hbq.lt
    have cO := ho.cell 0
    simp at cO
    have fO := ho.frozen 0
    have hlO := ho.lt
    have HO1 := Lib.hid ho
    have HLow := Lib.hid hlow
    clear hr hM hR0 b2 b3 ho hlow hbw hvo HC hl0
    generalize z.m = x at *
    generalize z.k = zk at *
    obtain ⟨xn, xq, xo, xb⟩ := x
    dsimp only at HS cQ hbq hzq hzf hby
    generalize suTo enM a.m pre = S at *
    skip
    have hf : enM ⟨xn, xq, xo, xb⟩ = xq * xq := rfl
    rw [hf] at HS hzf
    have hm : IntKind.i64.wrap (xq * xq) = xq * xq := by rw [IntKind.wrap_i64]; generalize xq * xq = p at *; omega
    have ha : IntKind.i64.wrap (S + xq * xq) = S + xq * xq := by rw [IntKind.wrap_i64]; generalize xq * xq = p at *; omega
    gi_wp2
    refine ⟨(KeepsOthers.setCell _ _ _).from _, ⟨(Below.refl B W).setCell (p := ⟨w1.heap.size, 0, none⟩) (by show B ≤ w1.heap.size; omega) _, Below.heap_setCell _ _ _ _ (show w1.heap.size + 1 ≠ w1.heap.size by omega)⟩, ⟨?_, HLow.out.setCell (p := ⟨w1.heap.size, 0, none⟩) (by show w.heap.size ≤ w1.heap.size; omega) _, ?_⟩⟩
    · rw [HS.out]
      exact HO1.out.set_ 0 _
    · have e5 : ∀ (V : World) (p : Addr) (u : Value), (V.setCell p u).heap.size = V.heap.size := fun V p u => by simp [World.setCell]
      rw [e5]
      exact hle
  case done =>
    rintro D ys W hD rfl ⟨ho, hlow, hle⟩ hK
    have e := suTo_sum enM (l := a.m) n (by omega)
    rw [List.take_of_length_le (by omega)] at e
    have e2 := e.trans (en_sum HFit.out)
    rw [e2] at ho
    have cO := ho.cell 0
    simp at cO
    have HK := Lib.hid hK
    have HD := Lib.hid hD
    have HLow := Lib.hid hlow
    clear hK hD hlow ho hM hR0 b2 b3 e e2 hvo HC
    go_wp2
    refine leaves_marks w.heap.size [D] W (by simp) (fun E hE => by simp at hE; subst hE; exact HK.out) (fun E hE => by simp at hE; subst hE; have := HD.out; omega) fun w' hw' hkk hs => ?_
    refine ⟨.tuple #[.int .i64 (enerL a), .int .i64 0], by first | rfl | (simp [results, Tryz.results18, go_sem]; done), rfl, HLow.out.trans hw'⟩
  case stop =>
    rintro D c pre W _ _ hf _
    exact hf.elim
end Go.Proofs.YtafnebfchhmgcaaGreat
/- Voltage of the program. -/
namespace Go.Proofs.YtafnebfchhmgcaaGreat
open Go.RowKit Go.Sort Go.Shelf
set_option linter.unusedSimpArgs false
set_option linter.unusedVariables false
attribute [local go_sem] cell_if frozen_if grow_cell
attribute [local go_sem] Oper.semAt_some
end Go.Proofs.YtafnebfchhmgcaaGreat
