/- Joined texts: US UT UU BA BX. -/
import Derived.Test.YtafnebfchhmgcaaGreatQb
import Derived.Test.YtafnebfchhmgcaaGreatQc
import Derived.Laws.MakeOwn
import Derived.Lib.SliceRun
import Derived.Laws.CopyOwn
/- The usable modules: an iterator. -/
namespace Go.Proofs.YtafnebfchhmgcaaGreat
open Go.RowKit Go.Sort Go.Shelf
set_option linter.unusedSimpArgs false
set_option linter.unusedVariables false
attribute [local go_sem] cell_if frozen_if grow_cell
attribute [local go_sem] Oper.semAt_some
theorem usable_any (A : Option Addr) (n c : Nat) (a : Ar) (w : World) :
    Calls Tryz.prog 68 #[.agg #[.slice A n c, .int .i64 a.lo, .int .i64 a.hi, .int .i64 a.cur, .int .i64 a.lim]] w fun e w' => e = .returned (.func (.func 119) #[] #[.pointer (some ⟨w.heap.size, 0, none⟩)]) ∧ w.alloc (.cells #[.slice A n c, .int .i64 a.lo, .int .i64 a.hi, .int .i64 a.cur, .int .i64 a.lim] 36) = w' := by
  go_enter Tryz.func68, Tryz.ntmps68
  go_wp2
  go_ret
  exact ⟨rfl, rfl⟩
/-- A usable module, with its index. -/
structure Us (l : List Md) where
  k : Nat
  h : k < l.length
  u : (l[k]).by_ = false
def Us.m {l : List Md} (x : Us l) : Md := l[x.k]'x.h
theorem Us.mem {l : List Md} (x : Us l) : x.m ∈ l := List.getElem_mem x.h
theorem Us.by_ {l : List Md} (x : Us l) : x.m.by_ = false := x.u
def usV (l : List Md) (x : Us l) : Array Value := #[.int .i64 (x.k : Int), .agg #[.string x.m.n, .int .i64 x.m.q, .bool x.m.on, .bool x.m.by_]]
/-- The one at an index, if it is usable. -/
def oneU (l : List Md) (k : Nat) : List (Us l) := if h : k < l.length then (if u : (l[k]).by_ = false then [⟨k, h, u⟩] else []) else []
/-- What has come when k modules are over. -/
def uTo (l : List Md) : Nat → List (Us l)
  | 0 => []
  | k + 1 => uTo l k ++ oneU l k
theorem oneU_len (l : List Md) (k : Nat) : (oneU l k).length ≤ 1 := by
  unfold oneU
  split
  · split <;> simp
  · simp
theorem oneU_yes {l : List Md} {k : Nat} (h : k < l.length) (u : (l[k]).by_ = false) : oneU l k = [⟨k, h, u⟩] := by
  unfold oneU
  rw [dif_pos h, dif_pos u]
theorem oneU_no {l : List Md} {k : Nat} (h : k < l.length) (u : (l[k]).by_ = true) : oneU l k = [] := by
  unfold oneU
  rw [dif_pos h, dif_neg (by rw [u]; decide)]
theorem uTo_len (l : List Md) : ∀ k, (uTo l k).length ≤ k
  | 0 => Nat.le_refl _
  | k + 1 => by
    have := uTo_len l k
    have := oneU_len l k
    unfold uTo
    rw [List.length_append]
    omega
/-- What a round keeps: all below n₀; block g. -/
structure KpU (n₀ g : Nat) (W W' : World) : Prop where
  low : Below n₀ W W'
  sec : W'.heap[g]? = W.heap[g]?
theorem KpU.t {n₀ g : Nat} {A B C : World} (h : KpU n₀ g A B) (k : KpU n₀ g B C) : KpU n₀ g A C := ⟨h.low.trans k.low, k.sec.trans h.sec⟩
theorem KpU.b {n₀ g : Nat} {w : World} (hn : n₀ ≤ w.heap.size) (hg : g < w.heap.size) (W : World) (l : Nat) (o o' : Obj) (hl : w.heap.size ≤ l) (h : W.heap[l]? = some o) (h1 : o.isCells = false) (h2 : o.isWalk = false) : KpU n₀ g W (W.putObj l o') :=
  ⟨belowK_b hn W l o o' hl h h1 h2, World.putObj_heap_other (by omega)⟩
theorem KpU.of {n₀ g : Nat} {A B : World} (hn : n₀ ≤ A.heap.size) (hg : g < A.heap.size) (h : Below A.heap.size A B) : KpU n₀ g A B :=
  ⟨h.mono hn, h.block g hg⟩
set_option maxRecDepth 100000 in
set_option maxHeartbeats 4000000 in
theorem us_stops (n g1 n₀ : Nat) (A : Option Addr) (n0 c : Nat) (a : Ar) (w : World) (hn : 3 ≤ n) (hM : Reads w n₀ 4 A n0 (mds a.m)) (h0 : n₀ ≤ w.heap.size) (hn1 : n0 ≤ 400) (hp : Blk w g1 36 #[.slice A n0 c, .int .i64 a.lo, .int .i64 a.hi, .int .i64 a.cur, .int .i64 a.lim]) :
    SeqStopsK Fence.wide n Tryz.prog 119 #[.pointer (some ⟨g1, 0, none⟩)] (usV a.m) (KpU n₀ g1) (fun xs => xs = uTo a.m n0) (fun _ => True) 401 w := fun l J Jx W hW hJ hJx hR hJ0 => by
  obtain ⟨hl, hat⟩ := md_at hM
  have HL := Lib.hid hl
  have HA := Lib.hid hat
  have b1 := hp.kept hW
  have hnW : n₀ ≤ W.heap.size := Nat.le_trans h0 hW.size
  have hWl := Lib.hid (hW.mono h0)
  have l1 := b1.lt
  have c1 := b1.cell 0
  simp at c1
  clear hl hat hM hp hW
  refine callsIn_of_wp Tryz.func119 rfl trivial ?_ rfl
  simp only [Tryz.ntmps119, List.size_toArray, List.length_cons, List.length_nil, Nat.reduceAdd, Nat.reduceSub, Array.replicate_succ, Array.replicate_zero, List.push_toArray, List.append_toArray, List.nil_append, List.cons_append]
  gi_wp2
  gi_loopw [8] (fun i wr => ∃ k : Nat, k ≤ n0 ∧ i = .int .i64 k ∧ J (uTo a.m k) wr ∧ KpU n₀ g1 W wr ∧ W.heap.size ≤ wr.heap.size) (fun i _ => n0 - (intOf i).toNat)
  case atStart => exact ⟨0, Nat.zero_le _, rfl, hJ0, ⟨Below.refl _ _, rfl⟩, Nat.le_refl _⟩
  case round =>
    obtain ⟨k, hk, rfl, hJk, hkp, hsz⟩ := hrel
    clear c1
    by_cases hlt : k < n0
    · have hkl : k < a.m.length := by rw [HL.out]; exact hlt
      obtain ⟨b, o, eA, hbb, z0, z1, z2, z3⟩ := HA.out k hkl
      have kb : ∀ i, wr.cell? ⟨b, i, none⟩ = w.cell? ⟨b, i, none⟩ := fun i => (hWl.out.trans hkp.low).cell (p := ⟨b, i, none⟩) hbb
      rw [← kb] at z0 z1 z2 z3
      clear kb
      subst eA
      have hlen := uTo_len a.m k
      have hIn := World.grownBy_alloc wr (.cells #[.string (a.m[k]).n, .int .i64 (a.m[k]).q, .bool (a.m[k]).on, .bool (a.m[k]).by_] 115) none
      have hJ1 := hJ _ wr _ none hJk hIn (fun r e => by cases e)
      have hk1 : KpU n₀ g1 W (wr.alloc (.cells #[.string (a.m[k]).n, .int .i64 (a.m[k]).q, .bool (a.m[k]).on, .bool (a.m[k]).by_] 115)) := hkp.t (KpU.of (Nat.le_trans hnW hsz) (Nat.lt_of_lt_of_le l1 hsz) bl_)
      have hs1 : W.heap.size ≤ (wr.alloc (.cells #[.string (a.m[k]).n, .int .i64 (a.m[k]).q, .bool (a.m[k]).on, .bool (a.m[k]).by_] 115)).heap.size := by simp; omega
      cases hb : (a.m[k]).by_ with
      | true =>
        have HD : Hid (uTo a.m (k + 1) = uTo a.m k) := by show uTo a.m k ++ oneU a.m k = _; rw [oneU_no hkl hb, List.append_nil]
        rw [hb] at z3 hJ1 hk1 hs1
        clear hR hJ hJk hIn
        generalize a.m[k] = x at *
        obtain ⟨xn, xq, xo, xb⟩ := x
        dsimp only at z0 z1 z2 z3 hJ1 hk1 hs1 hb
        subst hb
        (gi_wp2; (try (refine ⟨fun _ h => (by cases h), ?_⟩; gi_wp2)); (try (refine ⟨fun _ h => (by cases h), ?_⟩; gi_wp2)))
        go_roundw
        case rel => exact ⟨k + 1, by omega, by go_num, by rw [HD.out]; exact hJ1, hk1, hs1⟩
        case measure => simp [intOf]; omega
      | false =>
        have HD : Hid (uTo a.m (k + 1) = uTo a.m k ++ [⟨k, hkl, hb⟩]) := by show uTo a.m k ++ oneU a.m k = _; rw [oneU_yes hkl hb]
        obtain ⟨fn, tmps, assign, body, hy, hR1⟩ := hR _ ⟨k, hkl, hb⟩ _ hJ1 (by omega)
        have hV : usV a.m ⟨k, hkl, hb⟩ = #[.int .i64 (k : Int), .agg #[.string (a.m[k]).n, .int .i64 (a.m[k]).q, .bool (a.m[k]).on, .bool (a.m[k]).by_]] := rfl
        rw [hV] at hy
        have HR := Lib.hid hR1
        have HDD := HD
        clear hR1 hR hV hJ hJk hIn HD
        generalize (⟨k, hkl, hb⟩ : Us a.m) = xx at *
        have hb' := hb
        generalize a.m[k] = x at *
        obtain ⟨xn, xq, xo, xb⟩ := x
        dsimp only at z0 z1 z2 z3 hJ1 hk1 hs1 hy hb hb'
        subst hb
        (gi_wp2; (try (refine ⟨fun _ h => (by cases h), ?_⟩; gi_wp2)); (try (refine ⟨fun _ h => (by cases h), ?_⟩; gi_wp2)))
        refine ⟨(fun _ => by omega), HR.out.mono ?_⟩
        rintro e W3 (⟨rfl, hJ3, hk3⟩ | ⟨rfl, hJx3⟩)
        · (gi_wp2; (try (refine ⟨fun _ h => (by cases h), ?_⟩; gi_wp2)); (try (refine ⟨fun _ h => (by cases h), ?_⟩; gi_wp2)))
          go_roundw
          case rel => exact ⟨k + 1, by omega, by go_num, by rw [HDD.out]; exact hJ3, hk1.t hk3, Nat.le_trans hs1 hk3.low.size⟩
          case measure => simp [intOf]; omega
        · (gi_wp2; (try (refine ⟨fun _ h => (by cases h), ?_⟩; gi_wp2)); (try (refine ⟨fun _ h => (by cases h), ?_⟩; gi_wp2)))
          refine bodyPost_ret (results_none rfl _ _ _) rfl ?_
          exact ⟨⟨_, rfl⟩, .inr ⟨_, trivial, hJx3⟩⟩
    · obtain rfl : k = n0 := by omega
      gi_wp2
      go_end0
      exact ⟨⟨_, rfl⟩, .inl ⟨_, rfl, hJk⟩⟩
end Go.Proofs.YtafnebfchhmgcaaGreat
/- The indices of the usable modules for which a condition holds. -/
namespace Go.Proofs.YtafnebfchhmgcaaGreat
open Go.RowKit Go.Sort Go.Shelf
set_option linter.unusedSimpArgs false
set_option linter.unusedVariables false
attribute [local go_sem] cell_if frozen_if grow_cell
attribute [local go_sem] Oper.semAt_some
theorem elemInt : Elem Tryz.prog 73 3 1 8 := elem_of Tryz.underlying73 (z := .int .i64 0) (by kernel_rfl) rfl (by decide)
/-- append of a literal's elements onto a row of the call's own (which may be nil still), in a fence. -/
theorem wpListIn_appV {F : Fence} {nF : Nat} {P : Program} {ops : Array Oper} {rest : List Oper} {o : Oper} {a : Act} {Q : Exit → Act → World → Prop} {w0 : World} {cs : Array Value} (t e size bytes : Nat) (E : Elem P t e size bytes) (hgd : o.guard = none) (s x : Operand)
    (ho : o.op = .call { callee := .builtin .append, args := #[s, x], argTypes := #[t, t] }) (base : Nat) (v : Value) (l : Nat) (xs : List Value) (hs : a.eval s = v) (hown : w0.ownsRow base e size v l xs) (m : Nat) (hx : a.eval x = .slice (some ⟨w0.heap.size, 0, none⟩) m m)
    (hl : cs.size = m * size) (h1 : ∀ u ∈ cs.toList, u.oneCell' = true) (hm : 0 < m) (h63 : l + m ≤ maxLen) (hbytes : (l + m) * bytes ≤ 140737488355328) (hbase : base ≤ w0.heap.size)
    (h : ∀ v' w', w'.ownsRow base e size v' (l + m) (xs ++ cs.toList) → w0.grownBy w' v.ownBlock → Below base w0 w' → (∀ k t' c, t' ≠ e → Blk w0 k t' c → Blk w' k t' c) → KeepsOthers w0 w' → wpListIn F nF P ops Q rest (a.put o.dst v') w') :
    wpListIn F nF P ops Q (o :: rest) a (w0.alloc (.cells cs e)) := by
  obtain ⟨ht, ⟨i, z, h1', h2', h3', h4', h5'⟩, hp⟩ := E
  refine wpListIn_append_own_at _ hgd s x t ho base e i z size bytes ht h1' h2' h3' h4' h5' hp v l xs hs (World.ownsRow.alloc hown _) ⟨w0.heap.size, 0, none⟩ m m cs.toList hx (by simpa using hl) (news_new w0 cs e) h1 h63 hbytes (by simp; omega) ?_
  intro v' w' hown' hg hnil hat
  have hb : ∀ r, v.ownBlock = some r → base ≤ r ∧ r < w0.heap.size := fun r hr => by
    rcases hown.2 with ⟨h0, _⟩ | ⟨g2, cap2, cur, hv, hb2, hlt, _⟩
    · rw [h0] at hr; cases hr
    · rw [hv] at hr
      have : g2 = r := by simpa [Value.ownBlock] using hr
      subst this
      exact ⟨hb2, (Array.getElem?_eq_some_iff.1 hlt).1⟩
  have hgr : w0.grownBy w' v.ownBlock := ⟨hg.os, hg.tape, hg.output, Nat.le_trans (by simp) hg.size, fun k hk hne => (hg.block k (by simp; omega) hne).trans (Below.heap_alloc w0 _ k hk)⟩
  refine h v' w' hown' hgr ((Below.refl base w0).grown hgr hbase (fun k hk => (hb k hk).1)) (fun k t' c ht' hk => ?_) (KeepsOthers.of_grownBy hgr fun j o' e' hj => ?_)
  rotate_left
  · rcases hown.2 with ⟨h0, _⟩ | ⟨g2, cap2, cur, hv, hb2, hlt, _⟩
    · rw [h0] at e'; cases e'
    · rw [hv] at e'
      have : j = g2 := by simpa [Value.ownBlock] using e'.symm
      subst this
      rw [hlt] at hj
      cases hj
      rfl
  refine (hgr.block k hk.lt (fun e' => ?_)).trans hk
  rcases hown.2 with ⟨h0, _⟩ | ⟨g2, cap2, cur, hv, hb2, hlt, _⟩
  · rw [h0] at e'; cases e'
  · rw [hv] at e'
    have : k = g2 := by simpa [Value.ownBlock] using e'
    subst this
    rw [show w0.heap[k]? = _ from hk] at hlt
    cases hlt
    exact ht' rfl
/-- Of those that have come, those for which a condition holds. -/
def zTo (p : Md → Bool) (l : List Md) (pre : List (Us l)) : List Int := (pre.filter fun x => p x.m).map fun x => (x.k : Int)
theorem zTo_snoc (p : Md → Bool) (l : List Md) (pre : List (Us l)) (x : Us l) : zTo p l (pre ++ [x]) = zTo p l pre ++ (if p x.m then [(x.k : Int)] else []) := by
  unfold zTo
  rw [List.filter_append, List.map_append]
  cases h : p x.m <;> simp [h]
theorem zTo_idxs (p : Md → Bool) {l : List Md} : ∀ k, k ≤ l.length → zTo p l (uTo l k) = idxs (fun x => usB x && p x) 0 (l.take k)
  | 0, _ => rfl
  | k + 1, h => by
    have ih := zTo_idxs p (l := l) k (by omega)
    have hk : k < l.length := by omega
    rw [idxs_take _ hk, ← ih]
    show zTo p l (uTo l k ++ oneU l k) = _
    unfold usB
    cases hb : (l[k]).by_ with
    | true => rw [oneU_no hk hb]; simp
    | false =>
      rw [oneU_yes hk hb, zTo_snoc]
      have : (⟨k, hk, hb⟩ : Us l).m = l[k] := rfl
      rw [this]
      simp
theorem zTo_len (p : Md → Bool) (l : List Md) (pre : List (Us l)) : (zTo p l pre).length ≤ pre.length := by
  unfold zTo
  rw [List.length_map]
  exact List.length_filter_le ..
/-- Between two modules. -/
structure IdI (w : World) (p : Md → Bool) (l : List Md) (fv : Value) (pre : List (Us l)) (W : World) : Prop where
  out : ∃ v, Blk W (w.heap.size + 1 + 1) 73 #[v] ∧ W.ownsRow (w.heap.size + 1 + 1 + 1 + 1) 3 1 v (zTo p l pre).length ((zTo p l pre).map (.int .i64))
  of : Blk W (w.heap.size + 1) 161 #[fv]
  low : Below w.heap.size w W
  le : w.heap.size + 1 + 1 + 1 + 1 ≤ W.heap.size
theorem row_base {w : World} {base base' size n : Nat} {e : TypeId} {v : Value} {xs : List Value} (h : w.ownsRow base e size v n xs) (hb : base' ≤ base) : w.ownsRow base' e size v n xs := by
  obtain ⟨h1, h2⟩ := h
  refine ⟨h1, ?_⟩
  rcases h2 with h2 | ⟨g, cap, cur, hv, hg, r⟩
  · exact Or.inl h2
  · exact Or.inr ⟨g, cap, cur, hv, by omega, r⟩
/-- A row is kept where no block of its type turns. -/
theorem row_kept {w w' : World} {base size n : Nat} {e : TypeId} {v : Value} {xs : List Value} (h : w.ownsRow base e size v n xs) (hb : ∀ k c, Blk w k e c → w'.heap[k]? = w.heap[k]?) : w'.ownsRow base e size v n xs := by
  obtain ⟨h1, h2⟩ := h
  refine ⟨h1, ?_⟩
  rcases h2 with h2 | ⟨g, cap, cur, hv, hg, hh, r⟩
  · exact Or.inl h2
  · exact Or.inr ⟨g, cap, cur, hv, hg, (hb g cur hh).trans hh, r⟩
theorem blk_ne {w : World} {k k' : Nat} {t t' : TypeId} {c c' : Array Value} (h : Blk w k t c) (h' : Blk w k' t' c') (ht : t ≠ t') : k ≠ k' := by
  rintro rfl
  unfold Blk at h h'
  rw [h] at h'
  cases h'
  exact ht rfl
theorem row_set {w : World} {base size n k i : Nat} {e t : TypeId} {v u : Value} {xs : List Value} {c : Array Value} (h : w.ownsRow base e size v n xs) (hk : Blk w k t c) (ht : e ≠ t) : (w.setCell ⟨k, i, none⟩ u).ownsRow base e size v n xs :=
  row_kept h fun j d hj => Below.heap_setCell w _ u j (blk_ne hj hk ht)
theorem row_grown {W V : World} {base e size n : Nat} {v : Value} {xs : List Value} {row : Option Nat} (h : W.ownsRow base e size v n xs) (hg : W.grownBy V row) (hr : ∀ r, row = some r → ∀ c, ¬ Blk W r e c) : V.ownsRow base e size v n xs := by
  refine ⟨h.1, ?_⟩
  rcases h.2 with h0 | ⟨g, cap, cur, hv, hb, hc, h1, h2, h3⟩
  · exact .inl h0
  · refine .inr ⟨g, cap, cur, hv, hb, (hg.block g (Array.getElem?_eq_some_iff.1 hc).1 (fun e' => hr g e'.symm _ hc)).trans hc, h1, h2, h3⟩
theorem IdI.grown {w : World} {p : Md → Bool} {l : List Md} {fv : Value} {pre : List (Us l)} {U V : World} {row : Option Nat} (hs : IdI w p l fv pre U) (hg : U.grownBy V row) (hr : ∀ r, row = some r → w.heap.size + 1 + 1 + 1 + 1 ≤ r ∧ ∀ t c, ¬ Blk U r t c) : IdI w p l fv pre V := by
  obtain ⟨⟨v, h1, h2⟩, h3, h4, h5⟩ := hs
  refine ⟨⟨v, (hg.block _ h1.lt (fun e => (hr _ e.symm).2 _ _ h1)).trans h1, row_grown h2 hg fun r e c hb => (hr r e).2 _ _ hb⟩, (hg.block _ h3.lt (fun e => (hr _ e.symm).2 _ _ h3)).trans h3, h4.grown hg (by omega) (fun j hj => by have := (hr j hj).1; omega), Nat.le_trans h5 hg.size⟩
theorem no_blk {U : World} {r : Nat} (h : ∃ o, U.heap[r]? = some o ∧ o.isCells = false) (t : TypeId) (c : Array Value) : ¬ Blk U r t c := fun hb => by
  obtain ⟨o, ho, hc⟩ := h
  rw [show U.heap[r]? = _ from hb] at ho
  cases ho
  cases hc
def IdRes (w : World) (zs : List Int) (e : Ending) (w' : World) : Prop := ∃ v, e = .returned v ∧ w'.ownsRow w.heap.size 3 1 v zs.length (zs.map (.int .i64)) ∧ Below w.heap.size w w'
set_option maxRecDepth 100000 in
set_option maxHeartbeats 4000000 in
theorem indices_any (g : Nat) (bs cap : Array Value) (B : Nat) (A : Option Addr) (n c : Nat) (a : Ar) (p : Md → Bool) (w : World) (hM : MsAt w B A n a.m) (hB : B ≤ w.heap.size) (h9 : n ≤ 400) (eg : Enters Tryz.prog g) (hp : Pred Tryz.prog g bs cap (fun x : Md => .agg #[.string x.n, .int .i64 x.q, .bool x.on, .bool x.by_]) a.m p w) :
    Calls Tryz.prog 87 #[.agg #[.slice A n c, .int .i64 a.lo, .int .i64 a.hi, .int .i64 a.cur, .int .i64 a.lim], .func (.func g) bs cap] w (IdRes w (idxs (fun x => usB x && p x) 0 a.m)) := by
  have hl0 := (md_at hM).1
  refine (callsIn_wide (n := 9)).1 ?_
  refine callsIn_of_wp_marks Tryz.func87 rfl trivial ?_ rfl
  refine wpIn_wide.2 ?_
  simp only [Tryz.ntmps87, List.size_toArray, List.length_cons, List.length_nil, Nat.reduceAdd, Nat.reduceSub, Array.replicate_succ, Array.replicate_zero, List.push_toArray, List.append_toArray, List.nil_append, List.cons_append]
  go_wp2_with fail
  refine (usable_any _ _ _ _ _).mono ?_
  rintro e wb ⟨rfl, hwb⟩
  have hbw : Below w.heap.size w wb := by rw [← hwb]; exact bl_
  have b1 : Blk wb (w.heap.size + 1) 161 #[.func (.func g) bs cap] := by rw [← hwb]; exact bk_
  have b2 : Blk wb (w.heap.size + 1 + 1) 73 #[.slice none 0 0] := by rw [← hwb]; exact bk_
  have b3 : Blk wb (w.heap.size + 1 + 1 + 1) 36 #[.slice A n c, .int .i64 a.lo, .int .i64 a.hi, .int .i64 a.cur, .int .i64 a.lim] := by rw [← hwb]; exact bk_
  have hsb : wb.heap.size = w.heap.size + 1 + 1 + 1 + 1 := by rw [← hwb]; simp
  have hR0 := hM.below (hbw.mono hB)
  clear hwb
  simp only [World.size_alloc]
  go_wp2_with fail
  refine (wpIn_wide (n := 9)).1 ?_
  refine wpIn_rangeFunc_ownH rfl (by omega) (gf := 119) (lb := #[.pointer (some ⟨w.heap.size + 1 + 1 + 1, 0, none⟩)]) rfl trivial (enters_of Tryz.func119 (by kernel_rfl) rfl)
    (us_stops 8 (w.heap.size + 1 + 1 + 1) B A n c a wb (by omega) hR0 (by omega) h9 b3) KpU.t (KpU.b (by omega) (by omega)) (Below.refl _ _) (fun _ => rfl)
    (fun pre W => IdI w p a.m (.func (.func g) bs cap) pre W)
    (fun _ _ _ => False)
    ?own (fun _ _ _ _ _ hs _ _ => hs) ?start
    (fun x a' W => ∃ q, a' = { tmps := #[.agg #[.slice A n c, .int .i64 a.lo, .int .i64 a.hi, .int .i64 a.cur, .int .i64 a.lim], .func (.func g) bs cap, .pointer (some ⟨w.heap.size, 0, none⟩), .pointer (some ⟨w.heap.size + 1, 0, none⟩), .slice none 0 0, .pointer (some ⟨w.heap.size + 1 + 1, 0, none⟩), .int .i64 (x.k : Int), .pointer (some ⟨q, 0, none⟩), .agg #[.slice A n c, .int .i64 a.lo, .int .i64 a.hi, .int .i64 a.cur, .int .i64 a.lim], .func (.func 119) #[] #[.pointer (some ⟨w.heap.size + 1 + 1 + 1, 0, none⟩)], .int .i64 (x.k : Int), .agg #[.string x.m.n, .int .i64 x.m.q, .bool x.m.on, .bool x.m.by_], undef, undef, undef, undef, undef, undef, undef, undef], defers := [] } ∧ wb.heap.size ≤ q ∧ Blk W q 115 #[.string x.m.n, .int .i64 x.m.q, .bool x.m.on, .bool x.m.by_]) ?ownA ?assign ?body ?done ?stop
  case own =>
    exact fun pre U V row hs hg hr => hs.grown hg fun r e => ⟨by have := (hr r e).1; omega, no_blk (hr r e).2⟩
  case start => exact ⟨⟨.slice none 0 0, b2, World.ownsRow_nil _ _ _ _⟩, b1, hbw, by omega⟩
  case ownA =>
    rintro x a' _ U V row ⟨q, e, hq, hb⟩ hg hr
    refine ⟨q, e, hq, (hg.block q hb.lt (fun e => ?_)).trans hb⟩
    obtain ⟨_, o, ho, hc⟩ := hr q e.symm
    rw [show U.heap[q]? = _ from hb] at ho
    cases ho
    cases hc
  case assign =>
    rintro l' pre z W K hI hK
    dsimp only [usV]
    gi_wp2
    have hIn : W.grownBy (W.alloc (.cells #[.string z.m.n, .int .i64 z.m.q, .bool z.m.on, .bool z.m.by_] 115)) none := World.grownBy_alloc W _ none
    have hle := hI.le
    refine hK _ _ (KeepsFrom.of_grownBy hIn (fun _ e => by cases e)) (KpU.of (by omega) (by omega) bl_) (hI.grown hIn (fun _ e => by cases e)) ⟨W.heap.size, rfl, by omega, Blk.new _ _ _⟩
  case body =>
    rintro l' pre z a' W hl ⟨r, hr⟩ hI ⟨q, rfl, hq, hbq⟩ hlp
    have hx := z.mem
    have hkl := z.h
    obtain ⟨⟨v, ho, hrow⟩, hof, hlow, hle⟩ := hI
    have HP := hp W hlow z.m hx
    rw [← Array.push_eq_append] at HP
    unfold Enters at eg
    have HS := Lib.hid (zTo_snoc p a.m pre z)
    have hlen := zTo_len p a.m pre
    have cF := hof.cell 0
    simp at cF
    have cQ := hbq.cell
    have HO := Lib.hid ho
    have HRw := Lib.hid hrow
    have HOf := Lib.hid hof
    have HLow := Lib.hid hlow
    clear hx hr hp hM hR0 b1 b2 b3 ho hrow hof hlow hbw
    generalize z.m = x at *
    generalize z.k = zk at *
    obtain ⟨xn, xq, xo, xb⟩ := x
    dsimp only at HP HS cQ hbq
    generalize zTo p a.m pre = L at *
    cases hq2 : p ⟨xn, xq, xo, xb⟩ with
    | true =>
      rw [hq2] at HP HS
      have HPH := Lib.hid HP
      clear HP hq2
      gi_wp2
      refine ⟨trivial, ?_⟩
      refine (CallsIn.inRound l' (callsIn_wide.2 HPH.out)).mono ?_
      rintro e w1 ⟨rfl, hb1⟩
      have hs1 := hb1.size
      have HO1 := Lib.hid (HO.out.kept hb1)
      have HRw1 := Lib.hid (own_kept HRw.out hb1)
      have HOf1 := Lib.hid (HOf.out.kept hb1)
      have cO := HO1.out.cell 0
      simp at cO
      have hlO := HO1.out.lt
      gi_wp2_with (gi_at_builtin; refine wpListIn_appV 73 3 1 8 elemInt rfl (.tmp 15) (.tmp 17) rfl (w.heap.size + 1 + 1 + 1 + 1) v L.length _ rfl HRw1.out 1 rfl rfl ?h1 (by decide) ?h3 ?h4 ?h5 ?_; (case h1 => intro u hu; simp at hu; subst hu; rfl); (case h3 => unfold maxLen; omega); (case h4 => omega); (case h5 => omega); intro v2 w2 hrow2 hg2 hb2 hk2 ho2; obtain ⟨A2, cap2, rfl, _, _, _⟩ := own_form hrow2; have HO2 := hk2 _ _ _ (by decide) HO1.out; have c2 := HO2.cell 0; have f2 := HO2.frozen 0; have l2 := HO2.lt; simp at c2)
      have HOf2 := hk2 _ _ _ (by decide) HOf1.out
      have hs2 := hb2.size
      refine ⟨((KeepsFrom.of_grownBy (grown_of_below hb1) (fun _ e => by cases e)).trans (ho2.from _)).trans ((KeepsOthers.setCell _ _ _).from _), ⟨((hb1.mono (by omega)).trans (hb2.mono (by omega))).setCell (p := ⟨w.heap.size + 1 + 1, 0, none⟩) (by show B ≤ w.heap.size + 1 + 1; omega) _, ?_⟩, ⟨⟨_, HO2.set_ 0 _, ?_⟩, HOf2.far (p := ⟨w.heap.size + 1 + 1, 0, none⟩) (show w.heap.size + 1 ≠ w.heap.size + 1 + 1 by omega) _, ((HLow.out.trans (hb1.mono (by omega))).trans (hb2.mono (by omega))).setCell (p := ⟨w.heap.size + 1 + 1, 0, none⟩) (by show w.heap.size ≤ w.heap.size + 1 + 1; omega) _, ?_⟩⟩
      · rw [Below.heap_setCell _ _ _ _ (show w.heap.size + 1 + 1 + 1 ≠ w.heap.size + 1 + 1 by omega)]
        exact (hb2.block _ (by omega)).trans (hb1.block _ (by omega))
      · rw [HS.out, if_pos (by trivial), List.length_append, List.map_append]
        exact row_set hrow2 HO2 (by decide)
      · have e5 : ∀ (V : World) (p : Addr) (u : Value), (V.setCell p u).heap.size = V.heap.size := fun V p u => by simp [World.setCell]
        rw [e5]
        omega
    | false =>
      rw [hq2] at HP HS
      have HPH := Lib.hid HP
      clear HP hq2
      gi_wp2
      refine ⟨trivial, ?_⟩
      refine (CallsIn.inRound l' (callsIn_wide.2 HPH.out)).mono ?_
      rintro e w1 ⟨rfl, hb1⟩
      gi_wp2
      have hIn := grown_of_below hb1
      refine ⟨KeepsFrom.of_grownBy hIn (fun _ e => by cases e), KpU.of (by omega) (by omega) hb1, ?_⟩
      have hs1 := hb1.size
      refine ⟨⟨v, HO.out.kept hb1, ?_⟩, HOf.out.kept hb1, HLow.out.trans (hb1.mono (by omega)), by omega⟩
      rw [HS.out, if_neg (by decide), List.append_nil]
      exact own_kept HRw.out hb1
  case done =>
    rintro D ys W hD rfl ⟨⟨v, ho, hrow⟩, hof, hlow, hle⟩ hK
    have e := zTo_idxs p (l := a.m) n (by omega)
    rw [List.take_of_length_le (by omega)] at e
    rw [e] at hrow
    have cO := ho.cell 0
    simp at cO
    have HK := Lib.hid hK
    have HD := Lib.hid hD
    have HLow := Lib.hid hlow
    have HRw := Lib.hid hrow
    clear hK hD hlow hrow hM hR0 b1 b2 b3 hof hp e
    go_wp2
    refine leaves_marks w.heap.size [D] W (by simp) (fun E hE => by simp at hE; subst hE; exact HK.out) (fun E hE => by simp at hE; subst hE; have := HD.out; omega) fun w' hw' hkk hs => ?_
    refine ⟨_, results_tmp rfl _ _ _, v, rfl, row_base (row_kept HRw.out fun k c hb => hkk k fun hk => ?_) (by omega), HLow.out.trans hw'⟩
    rw [List.mem_singleton.1 hk] at hb
    have hb' := (show W.heap[D]? = _ from hb).symm.trans HK.out
    cases hb'
  case stop =>
    rintro D c pre W _ _ hf _
    exact hf.elim
end Go.Proofs.YtafnebfchhmgcaaGreat
/- CheckArm of the program. -/
namespace Go.Proofs.YtafnebfchhmgcaaGreat
open Go.RowKit Go.Sort Go.Shelf
set_option linter.unusedSimpArgs false
set_option linter.unusedVariables false
attribute [local go_sem] cell_if frozen_if grow_cell
/-- Sizes of an arm as it comes in. -/
structure FitA (a : Ar) : Prop where
  len : a.m.length ≤ 17
  nm : ∀ x ∈ a.m, x.n.size ≤ maxLen
theorem reads_take {w : World} {B n k : Nat} {A : Option Addr} {l : List Md} (h : Reads w B 4 A n (mds l)) (hk : k ≤ n) : Reads w B 4 A k (mds (l.take k)) := by
  obtain ⟨h1, h2⟩ := h
  have hl : l.length = n := by
    have e := h1
    unfold mds at e
    rw [flat_len (f := Md.cells) (m := 4) (fun _ => rfl)] at e
    omega
  have ht : mds l = mds (l.take k) ++ mds (l.drop k) := by
    unfold mds
    rw [← List.flatMap_append, List.take_append_drop]
  have hlen : (mds (l.take k)).length = k * 4 := by
    unfold mds
    rw [flat_len (f := Md.cells) (m := 4) (fun _ => rfl), List.length_take]
    omega
  refine ⟨hlen, fun hpos => ?_⟩
  obtain ⟨b, o, e, hb, hc⟩ := h2 (by omega)
  refine ⟨b, o, e, hb, fun j u hu => hc j u ?_⟩
  rw [ht, List.getElem?_append_left (by rw [hlen]; have := (List.getElem?_eq_some_iff.1 hu).1; rw [hlen] at this; exact this)]
  exact hu
theorem twice_any (q : Nat) (x o : Md) (w : World) (hb : Blk w q 115 #[.string x.n, .int .i64 x.q, .bool x.on, .bool x.by_]) :
    Calls Tryz.prog 91 #[.agg #[.string o.n, .int .i64 o.q, .bool o.on, .bool o.by_], .pointer (some ⟨q, 0, none⟩)] w fun e w' => e = .returned (.bool (o.n.toList == x.n.toList)) ∧ Below w.heap.size w w' := by
  have c0 := hb.cell 0
  simp at c0
  have hl := hb.lt
  clear hb
  go_enter Tryz.func91, Tryz.ntmps91
  go_wp2
  go_ret
  exact ⟨by first | rfl | (simp; done), bl_⟩
theorem mdsGo_at (lo hi : Int) {l : List Md} {k : Nat} (hk : k < l.length) : mdsGo lo hi (l.take k) (l.drop k) = or0 (mdE (l.take k) lo hi l[k]) (mdsGo lo hi (l.take (k + 1)) (l.drop (k + 1))) := by
  rw [List.drop_eq_getElem_cons hk, List.take_succ_eq_append_getElem hk]
  rfl
set_option maxRecDepth 100000 in
set_option maxHeartbeats 4000000 in
theorem CheckArm_any (B : Nat) (A : Option Addr) (n c : Nat) (a : Ar) (w : World) (hM : MsAt w B A n a.m) (hB : B ≤ w.heap.size) (hF : FitA a) (hnc : n ≤ c) :
    Calls Tryz.prog 36 #[.agg #[.slice A n c, .int .i64 a.lo, .int .i64 a.hi, .int .i64 a.cur, .int .i64 a.lim]] w fun e w' => e = .returned (.int .i64 (armE a)) ∧ Below w.heap.size w w' := by
  obtain ⟨hl, hat⟩ := md_at hM
  have h17 := hF.len
  have HL := Lib.hid hl
  have HA := Lib.hid hat
  have HNm := Lib.hid hF.nm
  have HM := Lib.hid hM
  have HH : Hid (headE a = firstE [whenE ((n : Int) == 0) 12, whenE (decide ((16 : Int) < (n : Int))) 5, ckR a.lo 0 16384, ckR a.hi 0 16384, whenE (decide (a.hi < a.lo)) 11, ckR a.cur 0 1000, ckR a.lim 0 16]) := by unfold headE; rw [hl]; exact Lib.hid rfl
  have hn17 : n ≤ 17 := by omega
  clear hl hat h17 hF hM
  unfold armE
  rw [HH.out]
  go_enter Tryz.func36, Tryz.ntmps36
  go_wp2_with fail
  (refine wp_region_calm [] [0, 1, 2, 3, 4, 5, 6, 7, 8, 9, 10, 11, 12, 13, 14, 15, 16, 17, 18, 19, 20, 21, 22, 23, 24, 25, 26, 27, 28, 29, 30, 31] 3 (by kernel_rfl) rfl (by kernel_rfl) (by kernel_rfl) (by kernel_rfl) ?_; simp only [pickB, List.filterMap_cons, List.filterMap_nil, List.getElem?_toArray, List.getElem?_cons_zero, List.getElem?_cons_succ]; (repeat (first | ((first | (with_reducible refine quietL_plain rfl (fun K hK => ?_)) | (with_reducible refine quietL_want (by with_unfolding_all rfl) (fun K hK => ?_))); (apply Exists.intro; refine ⟨fun wx hx => ?_, ?_⟩; (· (have hcx := ifs_ex hx); simp [go_sem, *, ↓IntWalk.iteOmega] <;> (first | rfl | exact ⟨rfl, rfl⟩ | (first | (with_reducible exact calls_B (calls_below (awhen_any _ _ _))) | (with_reducible exact calls_B (calls_below (awithin_any _ _ _ _)))))); (simp only [Act.put, List.setIfInBounds_toArray, List.set_cons_zero, List.set_cons_succ]; refine hK _ ?_; clear hK K))) | ((with_reducible refine quietL_skip (by with_unfolding_all rfl) ?_); simp only [Act.put, List.setIfInBounds_toArray, List.set_cons_zero, List.set_cons_succ]))); refine quietL_nil ?_)
  (refine anyB_one (i := 32) (by kernel_rfl) rfl rfl ?_; intro w2 hb2 K hK; obtain ⟨hc2, hf2⟩ := ifs_of hb2; have hs2 := hb2.size; (try simp at hs2); go_wp2; refine ⟨xs_, ?_⟩)
  (refine anyB_one (i := 33) (by kernel_rfl) rfl rfl ?_; intro w3 hb3 K hK; obtain ⟨hc3, hf3⟩ := ifs_of hb3; have hs3 := hb3.size; (try simp at hs3); go_wp2_with fail; refine (afirst_any (w2.heap.size + 1) _ 7 7 [whenE ((n : Int) == 0) 12, whenE (decide ((16 : Int) < (n : Int))) 5, ckR a.lo 0 16384, ckR a.hi 0 16384, whenE (decide (a.hi < a.lo)) 11, ckR a.cur 0 1000, ckR a.lim 0 16] _ ((by simpa using Reads.new (size := 1) w2 (([whenE ((n : Int) == 0) 12, whenE (decide ((16 : Int) < (n : Int))) 5, ckR a.lo 0 16384, ckR a.hi 0 16384, whenE (decide (a.hi < a.lo)) 11, ckR a.cur 0 1000, ckR a.lim 0 16]).map (.int .i64)).toArray 31 7 rfl : Reads (w2.alloc (.cells (([whenE ((n : Int) == 0) 12, whenE (decide ((16 : Int) < (n : Int))) 5, ckR a.lo 0 16384, ckR a.hi 0 16384, whenE (decide (a.hi < a.lo)) 11, ckR a.cur 0 1000, ckR a.lim 0 16]).map (.int .i64)).toArray 31)) (w2.heap.size + 1) 1 (some ⟨w2.heap.size, 0, none⟩) 7 (([whenE ((n : Int) == 0) 12, whenE (decide ((16 : Int) < (n : Int))) 5, ckR a.lo 0 16384, ckR a.hi 0 16384, whenE (decide (a.hi < a.lo)) 11, ckR a.cur 0 1000, ckR a.lim 0 16]).map (.int .i64))).below (hb3.mono (by simp))) (by unfold maxLen; decide)).mono ?_; rintro e w3' ⟨rfl, rfl⟩; go_wp2; refine ⟨xs_, ?_⟩)
  (refine anyB_one (i := 34) (by kernel_rfl) rfl rfl ?_; intro w4 hb4 K hK; obtain ⟨hc4, hf4⟩ := ifs_of hb4; have hs4 := hb4.size; (try simp at hs4); go_wp2; refine ⟨xs_, ?_⟩)
  (refine anyB_end (by kernel_rfl) ?_; intro w5 hb5; obtain ⟨hc5, hf5⟩ := ifs_of hb5; have hs5 := hb5.size; (try simp at hs5); simp only [Calm])
  clear HH
  obtain ⟨eh, hh⟩ : ∃ eh, firstE [whenE ((n : Int) == 0) 12, whenE (decide ((16 : Int) < (n : Int))) 5, ckR a.lo 0 16384, ckR a.hi 0 16384, whenE (decide (a.hi < a.lo)) 11, ckR a.cur 0 1000, ckR a.lim 0 16] = eh := ⟨_, rfl⟩
  rw [hh]
  have HHH := Lib.hid hh
  clear hh
  have bA : Blk w5 w.heap.size 36 #[.slice A n c, .int .i64 a.lo, .int .i64 a.hi, .int .i64 a.cur, .int .i64 a.lim] := bk_
  have hbw : Below w.heap.size w w5 := bl_
  have BA := Lib.hid bA
  have HBW := Lib.hid hbw
  clear bA hbw hb2 hb3 hb4 hb5 hc2 hc3 hc4 hc5 hf2 hf3 hf4 hf5
  by_cases h0 : eh = 0
  · subst h0
    have cA := BA.out.cell
    have lA := BA.out.lt
    go_wp2_with fail
    go_loopw [48] (fun i wr => ∃ k : Nat, k ≤ n ∧ i = .int .i64 k ∧ Hid (mdsGo a.lo a.hi (a.m.take k) (a.m.drop k) = mdsGo a.lo a.hi [] a.m) ∧ Below w.heap.size w wr ∧ Blk wr w.heap.size 36 #[.slice A n c, .int .i64 a.lo, .int .i64 a.hi, .int .i64 a.cur, .int .i64 a.lim]) (fun i _ => n - (intOf i).toNat)
    case atStart => exact ⟨0, by omega, rfl, Lib.hid rfl, HBW.out, BA.out⟩
    case round =>
      clear cA lA HBW BA
      obtain ⟨k, hk, rfl, hg, hb, bA⟩ := hrel
      have hsr := hb.size
      have cA := bA.cell
      have lA := bA.lt
      have BA := Lib.hid bA
      clear bA
      by_cases hlt : k < n
      · have hkl : k < a.m.length := by rw [HL.out]; exact hlt
        obtain ⟨b, o, eA, hbb, z0, z1, z2, z3⟩ := HA.out k hkl
        have kb : ∀ i, wr.cell? ⟨b, i, none⟩ = w.cell? ⟨b, i, none⟩ := fun i => hb.cell (p := ⟨b, i, none⟩) (by simp; omega)
        rw [← kb] at z0 z1 z2 z3
        clear kb
        have hbw : b < wr.heap.size := by omega
        have HG := Lib.hid (mdsGo_at a.lo a.hi hkl)
        have HGG := Lib.hid (hg.out.symm.trans HG.out)
        have hns := HNm.out _ (List.getElem_mem hkl)
        have HTk := Lib.hid (reads_take HM.out hk)
        subst eA
        have hkc : k ≤ c := by omega
        have hkc' : ¬ c < k := by omega
        generalize hx : a.m[k] = x at *
        obtain ⟨xn, xq, xo, xb⟩ := x
        dsimp only at z0 z1 z2 z3 hns
        go_wp2_with fail
        have hb1 : Below w.heap.size w (wr.alloc (.cells #[.string xn, .int .i64 xq, .bool xo, .bool xb] 115)) := bl_
        have bX1 : Blk (wr.alloc (.cells #[.string xn, .int .i64 xq, .bool xo, .bool xb] 115)) wr.heap.size 115 #[.string xn, .int .i64 xq, .bool xo, .bool xb] := Blk.new _ _ _
        have bA1 := BA.out.alloc (.cells #[.string xn, .int .i64 xq, .bool xo, .bool xb] 115)
        have hs1 := World.size_alloc wr (.cells #[.string xn, .int .i64 xq, .bool xo, .bool xb] 115)
        generalize (wr.alloc (.cells #[.string xn, .int .i64 xq, .bool xo, .bool xb] 115)) = w1 at *
        refine (ContainsFuncM_any 91 #[.pointer (some ⟨wr.heap.size, 0, none⟩)] B _ k c (a.m.take k) (fun o => o.n.toList == xn.toList) w1 (HTk.out.below (hb1.mono hB)) (by have := hb1.size; omega) (by omega) (enters_of Tryz.func91 (by kernel_rfl) rfl) (fun W hW o _ => twice_any wr.heap.size ⟨xn, xq, xo, xb⟩ o W (bX1.kept hW))).mono ?_
        rintro e w6 ⟨rfl, hb6⟩
        have HTw : Hid ((a.m.take k).any (fun o => o.n.toList == xn.toList) = twiceB (a.m.take k) ⟨xn, xq, xo, xb⟩) := Lib.hid rfl
        rw [HTw.out]
        obtain ⟨tb, htb⟩ : ∃ tb, twiceB (a.m.take k) ⟨xn, xq, xo, xb⟩ = tb := ⟨_, rfl⟩
        rw [htb]
        have hs6 := hb6.size
        have bA6 := bA1.kept hb6
        have bX6 := bX1.kept hb6
        have hbw6 : Below w.heap.size w w6 := hb1.trans (hb6.mono (by omega))
        have HIs := Lib.hid (fun W => IsName_any xn W hns)
        have HMd : Hid (mdsGo a.lo a.hi [] a.m = or0 (firstE [whenE (!nameB xn) 8, whenE tb 9, ckR xq 0 16384, whenE (xo && xb) 24, whenE (!xb && !inB a.lo a.hi xq) 30]) (mdsGo a.lo a.hi (a.m.take (k + 1)) (a.m.drop (k + 1)))) := by
          rw [← htb]
          exact HGG
        have cA6 := bA6.cell
        have lA6 := bA6.lt
        have cX6 := bX6.cell
        have lX6 := bX6.lt
        clear HTw htb HGG HG hg hb1 hb6 hb hsr bX1 bA1 hx hns HTk hbw cA lA BA z0 z1 z2 z3
        cases xo <;> cases xb
        · go_wp2_with fail
          (refine wp_region_calm [] [0, 1, 2, 3, 4, 5, 6, 7, 8, 9, 10, 11, 12, 13, 14, 15, 16, 17, 18, 19, 20, 21, 22, 23, 24, 25, 26, 27, 28] 3 (by kernel_rfl) rfl (by kernel_rfl) (by kernel_rfl) (by kernel_rfl) ?_; simp only [pickB, List.filterMap_cons, List.filterMap_nil, List.getElem?_toArray, List.getElem?_cons_zero, List.getElem?_cons_succ]; (repeat (first | ((first | (with_reducible refine quietL_plain rfl (fun K hK => ?_)) | (with_reducible refine quietL_want (by with_unfolding_all rfl) (fun K hK => ?_))); (apply Exists.intro; refine ⟨fun wx hx => ?_, ?_⟩; (· (have hcx := ifs_ex hx); simp [go_sem, *, ↓IntWalk.iteOmega] <;> (first | rfl | exact ⟨rfl, rfl⟩ | (first | (with_reducible exact calls_B (HIs.out _)) | (with_reducible exact calls_B (calls_below (awhen_any _ _ _))) | (with_reducible exact calls_B (calls_below (awithin_any _ _ _ _))) | (with_reducible exact calls_B (holds_any _ _ _ _))))); (simp only [Act.put, List.setIfInBounds_toArray, List.set_cons_zero, List.set_cons_succ]; refine hK _ ?_; clear hK K))) | ((with_reducible refine quietL_skip (by with_unfolding_all rfl) ?_); simp only [Act.put, List.setIfInBounds_toArray, List.set_cons_zero, List.set_cons_succ]))); refine quietL_nil ?_)
          (refine anyB_one (i := 29) (by kernel_rfl) rfl rfl ?_; intro w7 hb7 K hK; obtain ⟨hc7, hf7⟩ := ifs_of hb7; have hs7 := hb7.size; (try simp at hs7); go_wp2; refine ⟨xs_, ?_⟩)
          (refine anyB_one (i := 30) (by kernel_rfl) rfl rfl ?_; intro w8 hb8 K hK; obtain ⟨hc8, hf8⟩ := ifs_of hb8; have hs8 := hb8.size; (try simp at hs8); go_wp2_with fail; refine (afirst_any (w7.heap.size + 1) _ 5 5 [whenE (!nameB xn) 8, whenE tb 9, ckR xq 0 16384, whenE false 24, whenE (!inB a.lo a.hi xq) 30] _ ((by simpa using Reads.new (size := 1) w7 (([whenE (!nameB xn) 8, whenE tb 9, ckR xq 0 16384, whenE false 24, whenE (!inB a.lo a.hi xq) 30]).map (.int .i64)).toArray 31 5 rfl : Reads (w7.alloc (.cells (([whenE (!nameB xn) 8, whenE tb 9, ckR xq 0 16384, whenE false 24, whenE (!inB a.lo a.hi xq) 30]).map (.int .i64)).toArray 31)) (w7.heap.size + 1) 1 (some ⟨w7.heap.size, 0, none⟩) 5 (([whenE (!nameB xn) 8, whenE tb 9, ckR xq 0 16384, whenE false 24, whenE (!inB a.lo a.hi xq) 30]).map (.int .i64))).below (hb8.mono (by simp))) (by unfold maxLen; decide)).mono ?_; rintro e w8' ⟨rfl, rfl⟩; go_wp2; refine ⟨xs_, ?_⟩)
          (refine anyB_one (i := 31) (by kernel_rfl) rfl rfl ?_; intro w9 hb9 K hK; obtain ⟨hc9, hf9⟩ := ifs_of hb9; have hs9 := hb9.size; (try simp at hs9); go_wp2; refine ⟨xs_, ?_⟩)
          (refine anyB_end (by kernel_rfl) ?_; intro w10 hb10; obtain ⟨hc10, hf10⟩ := ifs_of hb10; have hs10 := hb10.size; (try simp at hs10); simp only [Calm])
          obtain ⟨ee, he⟩ : ∃ ee, firstE [whenE (!nameB xn) 8, whenE tb 9, ckR xq 0 16384, whenE false 24, whenE (!inB a.lo a.hi xq) 30] = ee := ⟨_, rfl⟩
          rw [he]
          have HEE : Hid (mdsGo a.lo a.hi [] a.m = or0 ee (mdsGo a.lo a.hi (a.m.take (k + 1)) (a.m.drop (k + 1)))) := by
            rw [← he]
            exact Lib.hid HMd.out
          have bA10 : Blk w10 w.heap.size 36 #[.slice (some ⟨b, o, none⟩) n c, .int .i64 a.lo, .int .i64 a.hi, .int .i64 a.cur, .int .i64 a.lim] := bk_
          have hbw10 : Below w.heap.size w w10 := bl_
          clear he HMd hb7 hb8 hb9 hb10 hc7 hc8 hc9 hc10 hf7 hf8 hf9 hf10
          by_cases hz : ee = 0
          · subst hz
            go_wp2_with fail
            go_roundw
            case rel => exact ⟨k + 1, by omega, by go_num, Lib.hid HEE.out.symm, hbw10, bA10⟩
            case measure => simp [intOf]; omega
          · have hne : (ee != 0) = true := by simpa using hz
            go_wp2_with fail
            go_ret
            exact ⟨by rw [HHH.out, HEE.out]; unfold or0; rw [if_pos rfl, if_neg hz]; rfl, hbw10⟩
        · go_wp2_with fail
          (refine wp_region_calm [] [0, 1, 2, 3, 4, 5, 6, 7, 8, 9, 10, 11, 12, 13, 14, 15, 16, 17, 18, 19, 20, 21, 22, 23, 24, 25, 26, 27, 28] 3 (by kernel_rfl) rfl (by kernel_rfl) (by kernel_rfl) (by kernel_rfl) ?_; simp only [pickB, List.filterMap_cons, List.filterMap_nil, List.getElem?_toArray, List.getElem?_cons_zero, List.getElem?_cons_succ]; (repeat (first | ((first | (with_reducible refine quietL_plain rfl (fun K hK => ?_)) | (with_reducible refine quietL_want (by with_unfolding_all rfl) (fun K hK => ?_))); (apply Exists.intro; refine ⟨fun wx hx => ?_, ?_⟩; (· (have hcx := ifs_ex hx); simp [go_sem, *, ↓IntWalk.iteOmega] <;> (first | rfl | exact ⟨rfl, rfl⟩ | (first | (with_reducible exact calls_B (HIs.out _)) | (with_reducible exact calls_B (calls_below (awhen_any _ _ _))) | (with_reducible exact calls_B (calls_below (awithin_any _ _ _ _))) | (with_reducible exact calls_B (holds_any _ _ _ _))))); (simp only [Act.put, List.setIfInBounds_toArray, List.set_cons_zero, List.set_cons_succ]; refine hK _ ?_; clear hK K))) | ((with_reducible refine quietL_skip (by with_unfolding_all rfl) ?_); simp only [Act.put, List.setIfInBounds_toArray, List.set_cons_zero, List.set_cons_succ]))); refine quietL_nil ?_)
          (refine anyB_one (i := 29) (by kernel_rfl) rfl rfl ?_; intro w7 hb7 K hK; obtain ⟨hc7, hf7⟩ := ifs_of hb7; have hs7 := hb7.size; (try simp at hs7); go_wp2; refine ⟨xs_, ?_⟩)
          (refine anyB_one (i := 30) (by kernel_rfl) rfl rfl ?_; intro w8 hb8 K hK; obtain ⟨hc8, hf8⟩ := ifs_of hb8; have hs8 := hb8.size; (try simp at hs8); go_wp2_with fail; refine (afirst_any (w7.heap.size + 1) _ 5 5 [whenE (!nameB xn) 8, whenE tb 9, ckR xq 0 16384, whenE false 24, whenE false 30] _ ((by simpa using Reads.new (size := 1) w7 (([whenE (!nameB xn) 8, whenE tb 9, ckR xq 0 16384, whenE false 24, whenE false 30]).map (.int .i64)).toArray 31 5 rfl : Reads (w7.alloc (.cells (([whenE (!nameB xn) 8, whenE tb 9, ckR xq 0 16384, whenE false 24, whenE false 30]).map (.int .i64)).toArray 31)) (w7.heap.size + 1) 1 (some ⟨w7.heap.size, 0, none⟩) 5 (([whenE (!nameB xn) 8, whenE tb 9, ckR xq 0 16384, whenE false 24, whenE false 30]).map (.int .i64))).below (hb8.mono (by simp))) (by unfold maxLen; decide)).mono ?_; rintro e w8' ⟨rfl, rfl⟩; go_wp2; refine ⟨xs_, ?_⟩)
          (refine anyB_one (i := 31) (by kernel_rfl) rfl rfl ?_; intro w9 hb9 K hK; obtain ⟨hc9, hf9⟩ := ifs_of hb9; have hs9 := hb9.size; (try simp at hs9); go_wp2; refine ⟨xs_, ?_⟩)
          (refine anyB_end (by kernel_rfl) ?_; intro w10 hb10; obtain ⟨hc10, hf10⟩ := ifs_of hb10; have hs10 := hb10.size; (try simp at hs10); simp only [Calm])
          obtain ⟨ee, he⟩ : ∃ ee, firstE [whenE (!nameB xn) 8, whenE tb 9, ckR xq 0 16384, whenE false 24, whenE false 30] = ee := ⟨_, rfl⟩
          rw [he]
          have HEE : Hid (mdsGo a.lo a.hi [] a.m = or0 ee (mdsGo a.lo a.hi (a.m.take (k + 1)) (a.m.drop (k + 1)))) := by
            rw [← he]
            exact Lib.hid HMd.out
          have bA10 : Blk w10 w.heap.size 36 #[.slice (some ⟨b, o, none⟩) n c, .int .i64 a.lo, .int .i64 a.hi, .int .i64 a.cur, .int .i64 a.lim] := bk_
          have hbw10 : Below w.heap.size w w10 := bl_
          clear he HMd hb7 hb8 hb9 hb10 hc7 hc8 hc9 hc10 hf7 hf8 hf9 hf10
          by_cases hz : ee = 0
          · subst hz
            go_wp2_with fail
            go_roundw
            case rel => exact ⟨k + 1, by omega, by go_num, Lib.hid HEE.out.symm, hbw10, bA10⟩
            case measure => simp [intOf]; omega
          · have hne : (ee != 0) = true := by simpa using hz
            go_wp2_with fail
            go_ret
            exact ⟨by rw [HHH.out, HEE.out]; unfold or0; rw [if_pos rfl, if_neg hz]; rfl, hbw10⟩
        · go_wp2_with fail
          (refine wp_region_calm [] [0, 1, 2, 3, 4, 5, 6, 7, 8, 9, 10, 11, 12, 13, 14, 15, 16, 17, 18, 19, 20, 21, 22, 23, 24, 25, 26, 27, 28] 3 (by kernel_rfl) rfl (by kernel_rfl) (by kernel_rfl) (by kernel_rfl) ?_; simp only [pickB, List.filterMap_cons, List.filterMap_nil, List.getElem?_toArray, List.getElem?_cons_zero, List.getElem?_cons_succ]; (repeat (first | ((first | (with_reducible refine quietL_plain rfl (fun K hK => ?_)) | (with_reducible refine quietL_want (by with_unfolding_all rfl) (fun K hK => ?_))); (apply Exists.intro; refine ⟨fun wx hx => ?_, ?_⟩; (· (have hcx := ifs_ex hx); simp [go_sem, *, ↓IntWalk.iteOmega] <;> (first | rfl | exact ⟨rfl, rfl⟩ | (first | (with_reducible exact calls_B (HIs.out _)) | (with_reducible exact calls_B (calls_below (awhen_any _ _ _))) | (with_reducible exact calls_B (calls_below (awithin_any _ _ _ _))) | (with_reducible exact calls_B (holds_any _ _ _ _))))); (simp only [Act.put, List.setIfInBounds_toArray, List.set_cons_zero, List.set_cons_succ]; refine hK _ ?_; clear hK K))) | ((with_reducible refine quietL_skip (by with_unfolding_all rfl) ?_); simp only [Act.put, List.setIfInBounds_toArray, List.set_cons_zero, List.set_cons_succ]))); refine quietL_nil ?_)
          (refine anyB_one (i := 29) (by kernel_rfl) rfl rfl ?_; intro w7 hb7 K hK; obtain ⟨hc7, hf7⟩ := ifs_of hb7; have hs7 := hb7.size; (try simp at hs7); go_wp2; refine ⟨xs_, ?_⟩)
          (refine anyB_one (i := 30) (by kernel_rfl) rfl rfl ?_; intro w8 hb8 K hK; obtain ⟨hc8, hf8⟩ := ifs_of hb8; have hs8 := hb8.size; (try simp at hs8); go_wp2_with fail; refine (afirst_any (w7.heap.size + 1) _ 5 5 [whenE (!nameB xn) 8, whenE tb 9, ckR xq 0 16384, whenE false 24, whenE (!inB a.lo a.hi xq) 30] _ ((by simpa using Reads.new (size := 1) w7 (([whenE (!nameB xn) 8, whenE tb 9, ckR xq 0 16384, whenE false 24, whenE (!inB a.lo a.hi xq) 30]).map (.int .i64)).toArray 31 5 rfl : Reads (w7.alloc (.cells (([whenE (!nameB xn) 8, whenE tb 9, ckR xq 0 16384, whenE false 24, whenE (!inB a.lo a.hi xq) 30]).map (.int .i64)).toArray 31)) (w7.heap.size + 1) 1 (some ⟨w7.heap.size, 0, none⟩) 5 (([whenE (!nameB xn) 8, whenE tb 9, ckR xq 0 16384, whenE false 24, whenE (!inB a.lo a.hi xq) 30]).map (.int .i64))).below (hb8.mono (by simp))) (by unfold maxLen; decide)).mono ?_; rintro e w8' ⟨rfl, rfl⟩; go_wp2; refine ⟨xs_, ?_⟩)
          (refine anyB_one (i := 31) (by kernel_rfl) rfl rfl ?_; intro w9 hb9 K hK; obtain ⟨hc9, hf9⟩ := ifs_of hb9; have hs9 := hb9.size; (try simp at hs9); go_wp2; refine ⟨xs_, ?_⟩)
          (refine anyB_end (by kernel_rfl) ?_; intro w10 hb10; obtain ⟨hc10, hf10⟩ := ifs_of hb10; have hs10 := hb10.size; (try simp at hs10); simp only [Calm])
          obtain ⟨ee, he⟩ : ∃ ee, firstE [whenE (!nameB xn) 8, whenE tb 9, ckR xq 0 16384, whenE false 24, whenE (!inB a.lo a.hi xq) 30] = ee := ⟨_, rfl⟩
          rw [he]
          have HEE : Hid (mdsGo a.lo a.hi [] a.m = or0 ee (mdsGo a.lo a.hi (a.m.take (k + 1)) (a.m.drop (k + 1)))) := by
            rw [← he]
            exact Lib.hid HMd.out
          have bA10 : Blk w10 w.heap.size 36 #[.slice (some ⟨b, o, none⟩) n c, .int .i64 a.lo, .int .i64 a.hi, .int .i64 a.cur, .int .i64 a.lim] := bk_
          have hbw10 : Below w.heap.size w w10 := bl_
          clear he HMd hb7 hb8 hb9 hb10 hc7 hc8 hc9 hc10 hf7 hf8 hf9 hf10
          by_cases hz : ee = 0
          · subst hz
            go_wp2_with fail
            go_roundw
            case rel => exact ⟨k + 1, by omega, by go_num, Lib.hid HEE.out.symm, hbw10, bA10⟩
            case measure => simp [intOf]; omega
          · have hne : (ee != 0) = true := by simpa using hz
            go_wp2_with fail
            go_ret
            exact ⟨by rw [HHH.out, HEE.out]; unfold or0; rw [if_pos rfl, if_neg hz]; rfl, hbw10⟩
        · go_wp2_with fail
          (refine wp_region_calm [] [0, 1, 2, 3, 4, 5, 6, 7, 8, 9, 10, 11, 12, 13, 14, 15, 16, 17, 18, 19, 20, 21, 22, 23, 24, 25, 26, 27, 28] 3 (by kernel_rfl) rfl (by kernel_rfl) (by kernel_rfl) (by kernel_rfl) ?_; simp only [pickB, List.filterMap_cons, List.filterMap_nil, List.getElem?_toArray, List.getElem?_cons_zero, List.getElem?_cons_succ]; (repeat (first | ((first | (with_reducible refine quietL_plain rfl (fun K hK => ?_)) | (with_reducible refine quietL_want (by with_unfolding_all rfl) (fun K hK => ?_))); (apply Exists.intro; refine ⟨fun wx hx => ?_, ?_⟩; (· (have hcx := ifs_ex hx); simp [go_sem, *, ↓IntWalk.iteOmega] <;> (first | rfl | exact ⟨rfl, rfl⟩ | (first | (with_reducible exact calls_B (HIs.out _)) | (with_reducible exact calls_B (calls_below (awhen_any _ _ _))) | (with_reducible exact calls_B (calls_below (awithin_any _ _ _ _))) | (with_reducible exact calls_B (holds_any _ _ _ _))))); (simp only [Act.put, List.setIfInBounds_toArray, List.set_cons_zero, List.set_cons_succ]; refine hK _ ?_; clear hK K))) | ((with_reducible refine quietL_skip (by with_unfolding_all rfl) ?_); simp only [Act.put, List.setIfInBounds_toArray, List.set_cons_zero, List.set_cons_succ]))); refine quietL_nil ?_)
          (refine anyB_one (i := 29) (by kernel_rfl) rfl rfl ?_; intro w7 hb7 K hK; obtain ⟨hc7, hf7⟩ := ifs_of hb7; have hs7 := hb7.size; (try simp at hs7); go_wp2; refine ⟨xs_, ?_⟩)
          (refine anyB_one (i := 30) (by kernel_rfl) rfl rfl ?_; intro w8 hb8 K hK; obtain ⟨hc8, hf8⟩ := ifs_of hb8; have hs8 := hb8.size; (try simp at hs8); go_wp2_with fail; refine (afirst_any (w7.heap.size + 1) _ 5 5 [whenE (!nameB xn) 8, whenE tb 9, ckR xq 0 16384, whenE true 24, whenE false 30] _ ((by simpa using Reads.new (size := 1) w7 (([whenE (!nameB xn) 8, whenE tb 9, ckR xq 0 16384, whenE true 24, whenE false 30]).map (.int .i64)).toArray 31 5 rfl : Reads (w7.alloc (.cells (([whenE (!nameB xn) 8, whenE tb 9, ckR xq 0 16384, whenE true 24, whenE false 30]).map (.int .i64)).toArray 31)) (w7.heap.size + 1) 1 (some ⟨w7.heap.size, 0, none⟩) 5 (([whenE (!nameB xn) 8, whenE tb 9, ckR xq 0 16384, whenE true 24, whenE false 30]).map (.int .i64))).below (hb8.mono (by simp))) (by unfold maxLen; decide)).mono ?_; rintro e w8' ⟨rfl, rfl⟩; go_wp2; refine ⟨xs_, ?_⟩)
          (refine anyB_one (i := 31) (by kernel_rfl) rfl rfl ?_; intro w9 hb9 K hK; obtain ⟨hc9, hf9⟩ := ifs_of hb9; have hs9 := hb9.size; (try simp at hs9); go_wp2; refine ⟨xs_, ?_⟩)
          (refine anyB_end (by kernel_rfl) ?_; intro w10 hb10; obtain ⟨hc10, hf10⟩ := ifs_of hb10; have hs10 := hb10.size; (try simp at hs10); simp only [Calm])
          obtain ⟨ee, he⟩ : ∃ ee, firstE [whenE (!nameB xn) 8, whenE tb 9, ckR xq 0 16384, whenE true 24, whenE false 30] = ee := ⟨_, rfl⟩
          rw [he]
          have HEE : Hid (mdsGo a.lo a.hi [] a.m = or0 ee (mdsGo a.lo a.hi (a.m.take (k + 1)) (a.m.drop (k + 1)))) := by
            rw [← he]
            exact Lib.hid HMd.out
          have bA10 : Blk w10 w.heap.size 36 #[.slice (some ⟨b, o, none⟩) n c, .int .i64 a.lo, .int .i64 a.hi, .int .i64 a.cur, .int .i64 a.lim] := bk_
          have hbw10 : Below w.heap.size w w10 := bl_
          clear he HMd hb7 hb8 hb9 hb10 hc7 hc8 hc9 hc10 hf7 hf8 hf9 hf10
          by_cases hz : ee = 0
          · subst hz
            go_wp2_with fail
            go_roundw
            case rel => exact ⟨k + 1, by omega, by go_num, Lib.hid HEE.out.symm, hbw10, bA10⟩
            case measure => simp [intOf]; omega
          · have hne : (ee != 0) = true := by simpa using hz
            go_wp2_with fail
            go_ret
            exact ⟨by rw [HHH.out, HEE.out]; unfold or0; rw [if_pos rfl, if_neg hz]; rfl, hbw10⟩
      · obtain rfl : k = n := by omega
        have HE : Hid (mdsGo a.lo a.hi [] a.m = 0) := by
          rw [← hg.out, List.drop_eq_nil_of_le (by rw [HL.out]; exact Nat.le_refl _)]
          exact Lib.hid rfl
        go_wp2_with fail
        go_ret
        exact ⟨by rw [HHH.out, or0_of rfl HE.out]; rfl, hb⟩
  · have hne : (eh != 0) = true := by simpa using h0
    go_wp2_with fail
    go_ret
    exact ⟨by rw [HHH.out]; unfold or0; rw [if_neg h0]; rfl, HBW.out⟩
end Go.Proofs.YtafnebfchhmgcaaGreat
/- The law's own and told: arms by value. -/
namespace Go.Proofs.YtafnebfchhmgcaaGreat
open Go.RowKit Go.Sort Go.Shelf
set_option linter.unusedSimpArgs false
set_option linter.unusedVariables false
attribute [local go_sem] cell_if frozen_if grow_cell
theorem elemMd : Elem Tryz.prog 34 115 4 32 := elem_of Tryz.underlying34 (z := .agg #[.string ⟨#[]⟩, .int .i64 0, .bool false, .bool false]) (by kernel_rfl) rfl (by decide)
theorem elemMdR : Elem Tryz.prog 22 48 4 32 := elem_of Tryz.underlying22 (z := .agg #[.string ⟨#[]⟩, .int .i64 0, .bool false, .bool false]) (by kernel_rfl) rfl (by decide)
theorem own_ne {w : World} {base e size n k t : Nat} {v : Value} {xs : List Value} {c : Array Value} (h : w.ownsRow base e size v n xs) (hk : Blk w k t c) (ht : t ≠ e) : v.ownBlock ≠ some k := fun e' => by
  rcases h.2 with ⟨h0, _⟩ | ⟨g2, cap2, cur, hv, _, hlt, _⟩
  · rw [h0] at e'; cases e'
  · rw [hv] at e'
    have : g2 = k := by simpa [Value.ownBlock] using e'
    subst this
    rw [show w.heap[g2]? = _ from hk] at hlt
    cases hlt
    exact ht rfl
/-- What a copied arm is: a row of the call's own. -/
def OnRes (t : TypeId) (w : World) (a : Ar) (e : Ending) (w' : World) : Prop :=
  ∃ v A cap, v = .slice A a.m.length cap ∧ e = .returned (.agg #[v, .int .i64 a.lo, .int .i64 a.hi, .int .i64 a.cur, .int .i64 a.lim]) ∧ w'.ownsRow w.heap.size t 4 v a.m.length (mds a.m) ∧ a.m.length ≤ cap ∧ Below w.heap.size w w'
structure OnI (T1 T2 t : TypeId) (w : World) (A : Option Addr) (n c : Nat) (a : Ar) (k : Nat) (v : Value) (W : World) : Prop where
  b1 : Blk W w.heap.size T1 #[.slice A n c, .int .i64 a.lo, .int .i64 a.hi, .int .i64 a.cur, .int .i64 a.lim]
  b2 : Blk W (w.heap.size + 1) T2 #[.slice none 0 0, .int .i64 0, .int .i64 0, .int .i64 0, .int .i64 0]
  b3 : Blk W (w.heap.size + 1 + 1) T2 #[v, .int .i64 a.lo, .int .i64 a.hi, .int .i64 a.cur, .int .i64 a.lim]
  r : W.ownsRow (w.heap.size + 1 + 1 + 1) t 4 v k (mds (a.m.take k))
  low : Below w.heap.size w W
  le : w.heap.size + 1 + 1 + 1 ≤ W.heap.size
theorem OnI.kept {T1 T2 t : TypeId} {w W W' : World} {A : Option Addr} {n c : Nat} {a : Ar} {k : Nat} {v : Value} (h : OnI T1 T2 t w A n c a k v W) (hb : Below W.heap.size W W') : OnI T1 T2 t w A n c a k v W' :=
  ⟨h.b1.kept hb, h.b2.kept hb, h.b3.kept hb, own_kept h.r hb, h.low.trans (hb.mono h.low.size), Nat.le_trans h.le hb.size⟩
end Go.Proofs.YtafnebfchhmgcaaGreat
/- An arm with a list of its own (program): own. -/
namespace Go.Proofs.YtafnebfchhmgcaaGreat
open Go.RowKit Go.Sort Go.Shelf
set_option linter.unusedSimpArgs false
set_option linter.unusedVariables false
attribute [local go_sem] cell_if frozen_if grow_cell
theorem run_copy_all {P : Program} (w : World) (dT sT ty elem : TypeId) (sz g n c c2 : Nat) (A : Option Addr) (cur : Array Value) (t : TypeId) (xs : List Value)
    (hu : P.underlying dT = some (.slice elem)) (hs : (P.info? elem).map (·.size) = some sz) (hg : Blk w g t cur) (hr : ∃ B, Reads w B sz A n xs) (hcur : cur.size = n * sz) (h1 : ∀ v ∈ xs, v.oneCell' = true) :
    ∃ w', (Builtin.copy_ #[dT, sT] ty #[.slice (some ⟨g, 0, none⟩) n c2, .slice A n c]).run P w = .ok (goInt n) w' ∧ Blk w' g t xs.toArray ∧ (∀ k, k ≠ g → w'.heap[k]? = w.heap[k]?) ∧ w'.heap.size = w.heap.size ∧ w'.os = w.os ∧ w'.tape = w.tape ∧ w'.output = w.output := by
  obtain ⟨B, hr⟩ := hr
  obtain ⟨i, hq, rfl⟩ := Option.map_eq_some_iff.1 hs
  have hl := hr.1
  have hst := run_storeCells_at P g 0 t xs 0 cur w hg (by omega) h1
  have hfull : cur.toList.take 0 ++ xs ++ cur.toList.drop (0 + xs.length) = xs := by
    rw [List.take_zero, List.nil_append, List.drop_eq_nil_of_le (by simp; omega), List.append_nil]
  cases A with
  | none =>
    obtain rfl : n = 0 := by
      rcases Nat.eq_zero_or_pos n with h | h
      · exact h
      · obtain ⟨b, o, e, _⟩ := hr.2 h
        cases e
    obtain rfl : xs = [] := List.eq_nil_of_length_eq_zero (by rw [hl]; simp)
    refine ⟨w, ?_, ?_, fun _ _ => rfl, rfl, rfl, rfl, rfl⟩
    · simp [Builtin.copy_, run_underlying hu, Builtin.lenOf, Builtin.firstCells, sizeOf, typeInfo, hq, storeCells]
    · have : cur = #[] := by apply Array.eq_empty_of_size_eq_zero; simpa using hcur
      rw [← this]; exact hg
  | some a =>
    have hsrc : ∀ j v, xs[j]? = some v → w.cell? (a.add j) = some v := fun j v hv => by
      have hj := (List.getElem?_eq_some_iff.1 hv).1
      have hn0 : 0 < n := by
        rcases Nat.eq_zero_or_pos n with h | h
        · subst h; simp at hl; subst hl; simp at hj
        · exact h
      obtain ⟨b, o, e, _, hc⟩ := hr.2 hn0
      cases e
      rw [Addr.add_lit]
      exact hc j v hv
    have hld := run_loadCells_list (P := P) w a xs hsrc
    rw [hl] at hld
    refine ⟨w.setRow g xs.toArray, ?_, setRow_heap w g _ _ t _ hg, fun k hk => setRow_other w g k _ hk, by simp [World.setRow], rfl, rfl, rfl⟩
    rw [hfull] at hst
    simp [Builtin.copy_, run_underlying hu, Builtin.lenOf, Builtin.firstCells, sizeOf, typeInfo, hq, hld, hst]
theorem wpList_copy_all {P : Program} {w : World} {ops : Array Oper} {rest : List Oper} {o : Oper} {a : Act} {Q : Exit → Act → World → Prop} (hgd : o.guard = none) (d s : Operand) (dT sT elem : TypeId)
    (ho : o.op = .call { callee := .builtin .copy, args := #[d, s], argTypes := #[dT, sT] }) (sz g n c c2 : Nat) (A : Option Addr) (cur : Array Value) (t : TypeId) (xs : List Value) (hd : a.eval d = .slice (some ⟨g, 0, none⟩) n c2) (hv : a.eval s = .slice A n c)
    (hu : P.underlying dT = some (.slice elem)) (hs : (P.info? elem).map (·.size) = some sz) (hg : Blk w g t cur) (hr : ∃ B, Reads w B sz A n xs) (hcur : cur.size = n * sz) (h1 : ∀ v ∈ xs, v.oneCell' = true)
    (h : ∀ w', Blk w' g t xs.toArray → (∀ k, k ≠ g → w'.heap[k]? = w.heap[k]?) → w'.heap.size = w.heap.size → Below g w w' → wpList P ops Q rest (a.put o.dst (goInt n)) w') : wpList P ops Q (o :: rest) a w := by
  refine wpList_plain hgd fun K hK => ?_
  obtain ⟨w', hrun, g1, g2, g3, g4, g5, g6⟩ := run_copy_all (P := P) w dT sT o.type elem sz g n c c2 A cur t xs hu hs hg hr hcur h1
  unfold Oper.wp
  simp [execOp, ho, resolve, invoke, builtin, hd, hv, hrun, Result.andThen]
  exact hK _ _ (h w' g1 g2 g3 ⟨g4, g5, g6, Nat.le_of_eq g3.symm, fun k hk => g2 k (by omega)⟩)
theorem one_flat {α : Type} {f : α → List Value} (hf : ∀ x, ∀ v ∈ f x, v.oneCell' = true) (l : List α) : ∀ v ∈ l.flatMap f, v.oneCell' = true := by
  intro v hv
  obtain ⟨x, _, hx⟩ := List.mem_flatMap.1 hv
  exact hf x v hx
theorem mds_one (l : List Md) : ∀ v ∈ mds l, v.oneCell' = true := one_flat (fun x v hv => by simp [Md.cells] at hv; rcases hv with rfl | rfl | rfl | rfl <;> rfl) l
theorem mds_len (l : List Md) : (mds l).length = l.length * 4 := flat_len (f := Md.cells) (fun _ => rfl) l
section
variable {W w : World} {b k t t' B : Nat} {c : Array Value} {x0 x1 x2 x3 x4 v0 v1 v2 v3 v4 : Value}
/-- A store of five cells. -/
theorem put5_blk (h : Blk W b t #[x0, x1, x2, x3, x4]) : Blk (((((W.setCell ⟨b, 0, none⟩ v0).setCell ⟨b, 1, none⟩ v1).setCell ⟨b, 2, none⟩ v2).setCell ⟨b, 3, none⟩ v3).setCell ⟨b, 4, none⟩ v4) b t #[v0, v1, v2, v3, v4] :=
  ((((h.set_ 0 v0).set_ 1 v1).set_ 2 v2).set_ 3 v3).set_ 4 v4
theorem put5_far (h : Blk W k t c) (hne : k ≠ b) : Blk (((((W.setCell ⟨b, 0, none⟩ v0).setCell ⟨b, 1, none⟩ v1).setCell ⟨b, 2, none⟩ v2).setCell ⟨b, 3, none⟩ v3).setCell ⟨b, 4, none⟩ v4) k t c :=
  ((((h.far (p := ⟨b, 0, none⟩) hne v0).far (p := ⟨b, 1, none⟩) hne v1).far (p := ⟨b, 2, none⟩) hne v2).far (p := ⟨b, 3, none⟩) hne v3).far (p := ⟨b, 4, none⟩) hne v4
theorem put5_low (h : Below B w W) (hb : B ≤ b) : Below B w (((((W.setCell ⟨b, 0, none⟩ v0).setCell ⟨b, 1, none⟩ v1).setCell ⟨b, 2, none⟩ v2).setCell ⟨b, 3, none⟩ v3).setCell ⟨b, 4, none⟩ v4) :=
  ((((h.setCell (p := ⟨b, 0, none⟩) hb v0).setCell (p := ⟨b, 1, none⟩) hb v1).setCell (p := ⟨b, 2, none⟩) hb v2).setCell (p := ⟨b, 3, none⟩) hb v3).setCell (p := ⟨b, 4, none⟩) hb v4
end
/-- An arm with a block of modules of the call's own. -/
def OwnArm (w : World) (a : Ar) (e : Ending) (w' : World) : Prop := ∃ g, e = .returned (.agg #[.slice (some ⟨g, 0, none⟩) a.m.length a.m.length, .int .i64 a.lo, .int .i64 a.hi, .int .i64 a.cur, .int .i64 a.lim]) ∧ Blk w' g 115 (mds a.m).toArray ∧ w.heap.size ≤ g ∧ Below w.heap.size w w'
set_option maxRecDepth 100000 in
set_option maxHeartbeats 2000000 in
theorem aown_any (B : Nat) (A : Option Addr) (n c : Nat) (a : Ar) (w : World) (hM : MsAt w B A n a.m) (hB : B ≤ w.heap.size) (hn : n ≤ 1000) :
    Calls Tryz.prog 86 #[.agg #[.slice A n c, .int .i64 a.lo, .int .i64 a.hi, .int .i64 a.cur, .int .i64 a.lim]] w (OwnArm w a) := by
  obtain rfl := (md_at hM).1
  have HW := Lib.hid hM
  obtain ⟨ht, ⟨i, z, g1, g2, g3, g4, g5⟩, hp⟩ := elemMd
  have hm : ∀ w, (Instr.makeSlice 34 (.int .i64 (a.m.length : Int)) (.int .i64 (a.m.length : Int))).run Tryz.prog w = .ok (.slice (some ⟨w.heap.size, 0, none⟩) a.m.length a.m.length) (w.alloc (.cells (madeCells z.cells (a.m.length * 4)) 115)) := fun w => by
    have := run_make (P := Tryz.prog) w _ _ i z ht g1 g2 .i64 .i64 (a.m.length : Int) (a.m.length : Int) (by omega) (by omega) (by rw [g4]; omega) (by omega)
    rw [g3] at this
    simpa using this
  have hzs : Hid ((madeCells z.cells (a.m.length * 4)).size = a.m.length * 4) := size_madeCells _ _
  generalize madeCells z.cells (a.m.length * 4) = zc at *
  have HT := Lib.hid ht
  clear g1 g2 g3 g4 g5 ht hp hM i z
  go_enter Tryz.func86, Tryz.ntmps86
  go_wp2_with (with_reducible refine wpList_copy_all rfl (.tmp 8) (.tmp 10) 34 34 115 rfl 4 (w.heap.size + 1 + 1) a.m.length c a.m.length A zc 115 (mds a.m) rfl rfl HT.out ?hs ?hg ?hr hzs.out (mds_one _) ?_)
  case hs => kernel_rfl
  case hg => exact bk_
  case hr => exact ⟨B, HW.out.below bl_⟩
  intro w1 hb1 hk1 hs1 hbb1
  have b1 : Blk w1 w.heap.size 36 #[.slice A a.m.length c, .int .i64 a.lo, .int .i64 a.hi, .int .i64 a.cur, .int .i64 a.lim] := (hk1 _ (by omega)).trans (show Blk _ _ _ _ from bk_)
  have b2 : Blk w1 (w.heap.size + 1) 36 #[.slice none 0 0, .int .i64 0, .int .i64 0, .int .i64 0, .int .i64 0] := (hk1 _ (by omega)).trans (show Blk _ _ _ _ from bk_)
  have hbw : Below w.heap.size w w1 := (bl_ : Below w.heap.size w _).trans (hbb1.mono (by omega))
  have cy := b1.cell
  have lt1 := b1.lt
  have lt2 := b2.lt
  have c2 := b2.cell
  have f1 := b1.frozen
  have f2 := b2.frozen
  have B1 := Lib.hid b1
  have B2 := Lib.hid b2
  have BS := Lib.hid hb1
  have HBW := Lib.hid hbw
  clear hk1 hbb1 b1 b2 hb1 hm hzs HT hbw
  go_wp2_with fail
  have k1 := (B1.out.set_ 0 (.slice (some ⟨w.heap.size + 1 + 1, 0, none⟩) a.m.length a.m.length))
  have k2 := put5_blk (v0 := .slice (some ⟨w.heap.size + 1 + 1, 0, none⟩) a.m.length a.m.length) (v1 := .int .i64 a.lo) (v2 := .int .i64 a.hi) (v3 := .int .i64 a.cur) (v4 := .int .i64 a.lim) (B2.out.far (p := ⟨w.heap.size, 0, none⟩) (show w.heap.size + 1 ≠ w.heap.size by omega) (.slice (some ⟨w.heap.size + 1 + 1, 0, none⟩) a.m.length a.m.length))
  have k3 := put5_far (b := w.heap.size + 1) (v0 := .slice (some ⟨w.heap.size + 1 + 1, 0, none⟩) a.m.length a.m.length) (v1 := .int .i64 a.lo) (v2 := .int .i64 a.hi) (v3 := .int .i64 a.cur) (v4 := .int .i64 a.lim) (BS.out.far (p := ⟨w.heap.size, 0, none⟩) (show w.heap.size + 1 + 1 ≠ w.heap.size by omega) (.slice (some ⟨w.heap.size + 1 + 1, 0, none⟩) a.m.length a.m.length)) (by omega)
  have k4 := put5_low (b := w.heap.size + 1) (v0 := .slice (some ⟨w.heap.size + 1 + 1, 0, none⟩) a.m.length a.m.length) (v1 := .int .i64 a.lo) (v2 := .int .i64 a.hi) (v3 := .int .i64 a.cur) (v4 := .int .i64 a.lim) (HBW.out.setCell (p := ⟨w.heap.size, 0, none⟩) (show w.heap.size ≤ w.heap.size by omega) (.slice (some ⟨w.heap.size + 1 + 1, 0, none⟩) a.m.length a.m.length)) (by omega)
  have ck := k2.cell
  refine bodyPost_ret (v := .agg #[.slice (some ⟨w.heap.size + 1 + 1, 0, none⟩) a.m.length a.m.length, .int .i64 a.lo, .int .i64 a.hi, .int .i64 a.cur, .int .i64 a.lim]) (by simp [results, Tryz.results86, go_sem, ck]) rfl ⟨_, rfl, k3, by omega, k4⟩
end Go.Proofs.YtafnebfchhmgcaaGreat
