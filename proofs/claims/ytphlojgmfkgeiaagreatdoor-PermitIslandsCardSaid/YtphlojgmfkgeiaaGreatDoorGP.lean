/- The graph of states, in plain words; its rows in memory. -/
import Derived.Test.YtphlojgmfkgeiaaGreatDoorGQ
import Derived.Test.YtphlojgmfkgeiaaGreatDoorKk
import Derived.Test.YtphlojgmfkgeiaaGreatDoorKm
import Derived.Test.YtphlojgmfkgeiaaGreatDoorKb
namespace Go.Proofs.YtphlojgmfkgeiaaGreatDoor
open Go.RowKit Go.Sort Go.Shelf
def gCell (y : Yd) (s : Int) (i : Nat) : Int := if freeS y s i then nextS y s i else -1
def gRow (y : Yd) (s : Int) (k : Nat) : List Int := (List.range k).map (gCell y s)
theorem gRow_succ (y : Yd) (s : Int) (k : Nat) : gRow y s (k + 1) = gRow y s k ++ [gCell y s k] := by simp [gRow, List.range_succ]
theorem gRow_len (y : Yd) (s : Int) (k : Nat) : (gRow y s k).length = k := by simp [gRow]
theorem gRow_get {y : Yd} {s : Int} {k i : Nat} (h : i < k) : (gRow y s k)[i]? = some (gCell y s i) := by
  simp [gRow, h]
def gAdd (l : List Int) (z : Int) : List Int := if decide (0 ≤ z) && !hasI l z then l ++ [z] else l
theorem nextS_pos (y : Yd) (s : Int) (i : Nat) : 0 ≤ nextS y s i := (mem_rng.1 (nextS_in y s i)).1
theorem gCell_bd (y : Yd) (s : Int) (i : Nat) : -1 ≤ gCell y s i ∧ gCell y s i < 2 ^ y.w.length ∧ (freeS y s i = decide (0 ≤ gCell y s i)) := by
  have h := mem_rng.1 (nextS_in y s i)
  have h2 : nextS y s i < 2 ^ y.w.length := by simpa using h.2
  have hp : (0 : Int) < 2 ^ y.w.length := Int.pow_pos (by omega)
  unfold gCell
  cases hf : freeS y s i with
  | true => simp only [if_true]; refine ⟨by omega, h2, by simp; omega⟩
  | false => simp only [Bool.false_eq_true, if_false]; exact ⟨by omega, by omega, by decide⟩
theorem out_step (y : Yd) (s : Int) (l : List Int) (k : Nat) : addAll l (outS y s (k + 1)) = gAdd (addAll l (outS y s k)) (gCell y s k) := by
  rw [outS_succ, addAll_append]
  generalize addAll l (outS y s k) = m
  have h := nextS_pos y s k
  unfold gCell gAdd
  cases freeS y s k with
  | false => simp [addAll]
  | true =>
    have e : decide (0 ≤ nextS y s k) = true := by simpa using h
    simp only [if_true, e, Bool.true_and]
    show addNew m (nextS y s k) = _
    unfold addNew
    cases hasI m (nextS y s k) <;> simp
/-- A row of ints, not nil, that stays, whatever becomes of the blocks Tryz. -/
def RowS (X : List Nat) (W : World) (v : Value) (zs : List Int) : Prop := ∃ g c, v = .slice (some ⟨g, 0, none⟩) zs.length c ∧ ∀ W', Ex X W W' → Reads W' W'.heap.size 1 (some ⟨g, 0, none⟩) zs.length (zs.map (.int .i64))
section
variable {X Y : List Nat} {W W1 : World} {v : Value} {zs : List Int}
theorem RowS.turn (h : RowS X W v zs) (hb : Ex X W W1) (hY : ∀ x ∈ Y, x ∈ X ∨ W.heap.size ≤ x) : RowS Y W1 v zs := by
  obtain ⟨A, c, rfl, h⟩ := h
  exact ⟨A, c, rfl, fun W' h' => h W' ⟨h'.os.trans hb.os, h'.tape.trans hb.tape, h'.output.trans hb.output, Nat.le_trans hb.size h'.size, fun k hk hn =>
    (h'.block k (Nat.lt_of_lt_of_le hk hb.size) (fun hy => by
      rcases hY k hy with h1 | h1
      · exact hn h1
      · omega)).trans (hb.block k hk hn)⟩⟩
theorem RowS.ex (h : RowS X W v zs) (hb : Ex X W W1) : RowS X W1 v zs := h.turn hb (fun _ hx => .inl hx)
theorem RowS.own {base g c : Nat} (h : Own W base 3 1 g zs.length c (zs.map (.int .i64))) (hX : g ∉ X) : RowS X W (.slice (some ⟨g, 0, none⟩) zs.length c) zs :=
  ⟨_, _, rfl, fun W' h' => by
    have e := h.ex h' hX
    exact e.reads.more e.lt.2⟩
end
theorem elemIIR : Elem Tryz.prog 52 29 1 24 := elemII
theorem made_nils (n : Nat) : madeCells (Value.slice none 0 0).cells n = (List.replicate n (Value.slice none 0 0)).toArray := by
  apply Array.ext
  · rw [size_madeCells]; simp
  · intro i h1 h2
    simp [madeCells, Value.cells, Nat.mod_one]
theorem at_lenW (y : Yd) (s : Int) : (y.at s).w.length = y.w.length := withL_len _ _
/-- Between two states: l the states that have come, i of them looked at. -/
structure GrO (w : World) (O S : Nat) (A0 A1 A2 : Option Addr) (n0 n1 n2 c0 c1 c2 : Nat) (y : Yd) (N : Nat) (vs : List Value) (sm : List Bool) (i : Nat) (l q : List Int) (b off cap : Nat) (W : World) : Prop where
  box : Blk W w.heap.size 26 #[.slice A0 n0 c0, .slice A1 n1 c1, .slice A2 n2 c2]
  out : Blk W O 29 vs.toArray
  seen : Blk W S 4 (bls sm)
  que : Que W w.heap.size b off q.length cap q
  vl : vs.length = N
  sl : sm.length = N
  sn : nFalse sm + l.length = N
  sv : ∀ z ∈ rng N, mrk sm z = hasI l z
  rows : ∀ (s : Nat) (v : Value), vs[s]? = some v → ((s : Int) ∈ l.take i → RowS [b, O, S] W v (gRow y s y.w.length)) ∧ ((s : Int) ∉ l.take i → v = .slice none 0 0)
  low : Below w.heap.size w W
  hO : w.heap.size < O
  hS : w.heap.size < S
/-- Within a state c: k switches are over; v its row so far. -/
structure GrJ (w : World) (O S : Nat) (A0 A1 A2 : Option Addr) (n0 n1 n2 c0 c1 c2 : Nat) (y : Yd) (N : Nat) (vs : List Value) (i : Nat) (l : List Int) (c : Nat) (b7 : Nat) (D0 D1 D2 : Option Addr) (d0 d1 d2 : Nat) (k : Nat) (sm : List Bool) (m q : List Int) (b off cap : Nat) (v : Value) (W : World) : Prop where
  box : Blk W w.heap.size 26 #[.slice A0 n0 c0, .slice A1 n1 c1, .slice A2 n2 c2]
  out : Blk W O 29 (vs.set c v).toArray
  seen : Blk W S 4 (bls sm)
  que : Que W w.heap.size b off q.length cap q
  vl : vs.length = N
  hc : c < N
  sl : sm.length = N
  sn : nFalse sm + m.length = N
  sv : ∀ z ∈ rng N, mrk sm z = hasI m z
  rows : ∀ (s : Nat) (u : Value), vs[s]? = some u → s ≠ c → ((s : Int) ∈ l.take i → RowS (b :: O :: S :: vb v) W u (gRow y s y.w.length)) ∧ ((s : Int) ∉ l.take i → u = .slice none 0 0)
  row : W.ownsRow w.heap.size 3 1 v k ((gRow y c k).map (.int .i64))
  vne : v.ownBlock ≠ some b
  now : Blk W b7 26 #[.slice D0 y.s.length d0, .slice D1 y.w.length d1, .slice D2 y.p.length d2]
  yd : YdR (b :: O :: S :: vb v) W (y.at c) D0 D1 D2 y.s.length y.w.length y.p.length
  low : Below w.heap.size w W
  hO : w.heap.size < O
  hS : w.heap.size < S
  h7 : w.heap.size < b7
theorem blk_neT {W : World} {g g' : Nat} {t t' : TypeId} {c c' : Array Value} (h : Blk W g t c) (h' : Blk W g' t' c') (ht : t ≠ t') : g ≠ g' := by
  rintro rfl
  unfold Blk at h h'
  rw [h] at h'
  cases h'
  exact ht rfl
section
variable {w : World} {O S : Nat} {A0 A1 A2 : Option Addr} {n0 n1 n2 c0 c1 c2 : Nat} {y : Yd} {N : Nat} {vs : List Value} {i : Nat} {l : List Int} {c : Nat} {b7 : Nat} {D0 D1 D2 : Option Addr} {d0 d1 d2 k : Nat} {sm : List Bool} {m q : List Int} {b off cap : Nat} {v : Value} {W W' : World}
theorem GrO.kept (h : GrO w O S A0 A1 A2 n0 n1 n2 c0 c1 c2 y N vs sm i l q b off cap W) (hb : Below W.heap.size W W') : GrO w O S A0 A1 A2 n0 n1 n2 c0 c1 c2 y N vs sm i l q b off cap W' :=
  ⟨h.box.kept hb, h.out.kept hb, h.seen.kept hb, h.que.kept hb, h.vl, h.sl, h.sn, h.sv, fun s v hv => ⟨fun hs => ((h.rows s v hv).1 hs).ex (Ex.of_below hb), (h.rows s v hv).2⟩, h.low.trans (hb.mono h.low.size), h.hO, h.hS⟩
theorem GrJ.kept (h : GrJ w O S A0 A1 A2 n0 n1 n2 c0 c1 c2 y N vs i l c b7 D0 D1 D2 d0 d1 d2 k sm m q b off cap v W) (hb : Below W.heap.size W W') : GrJ w O S A0 A1 A2 n0 n1 n2 c0 c1 c2 y N vs i l c b7 D0 D1 D2 d0 d1 d2 k sm m q b off cap v W' :=
  ⟨h.box.kept hb, h.out.kept hb, h.seen.kept hb, h.que.kept hb, h.vl, h.hc, h.sl, h.sn, h.sv, fun s u hu hs => ⟨fun hl => ((h.rows s u hu hs).1 hl).ex (Ex.of_below hb), (h.rows s u hu hs).2⟩, own_kept h.row hb, h.vne, h.now.kept hb, h.yd.ex (Ex.of_below hb), h.low.trans (hb.mono h.low.size), h.hO, h.hS, h.h7⟩
theorem ex_set {X : List Nat} {W : World} {g : Nat} (hg : g ∈ X) (o : Nat) (u : Value) : Ex X W (W.setCell ⟨g, o, none⟩ u) := Ex.set_in (.inl hg) (Ex.refl _ _) u
theorem vb_mem {v : Value} {x : Nat} : x ∈ vb v ↔ v.ownBlock = some x := by
  unfold vb
  rw [Option.mem_toList]
/-- The row has grown by one, and lies in its place again. -/
theorem GrJ.put {g' cap' k' : Nat} (h : GrJ w O S A0 A1 A2 n0 n1 n2 c0 c1 c2 y N vs i l c b7 D0 D1 D2 d0 d1 d2 k sm m q b off cap v W) (hg : W.grownBy W' v.ownBlock) (hat : v.ownBlock = some g' ∨ W.heap.size ≤ g') (hown : Own W' w.heap.size 3 1 g' k' cap' ((gRow y c k').map (.int .i64))) :
    Blk W' O 29 (vs.set c v).toArray ∧ GrJ w O S A0 A1 A2 n0 n1 n2 c0 c1 c2 y N vs i l c b7 D0 D1 D2 d0 d1 d2 k' sm m q b off cap (.slice (some ⟨g', 0, none⟩) k' cap') (W'.setCell ⟨O, c, none⟩ (.slice (some ⟨g', 0, none⟩) k' cap')) := by
  obtain ⟨curq, hqb, _, _⟩ := h.que.cur
  have nO := row_own_neW h.row h.out (by decide)
  have nS := row_own_neW h.row h.seen (by decide)
  have nX := row_own_neW h.row h.box (by decide)
  have n7 := row_own_neW h.row h.now (by decide)
  have oS := blk_neT h.out h.seen (by decide)
  have oX := blk_neT h.out h.box (by decide)
  have o7 := blk_neT h.out h.now (by decide)
  have ob := blk_neT h.out hqb (by decide)
  have kO := h.out.grown hg (fun e => nO e.symm)
  have kS := h.seen.grown hg (fun e => nS e.symm)
  have kX := h.box.grown hg (fun e => nX e.symm)
  have k7 := h.now.grown hg (fun e => n7 e.symm)
  have kq := h.que.same (W' := W') (hg.block b h.que.lt (fun e => h.vne e.symm))
  obtain ⟨cur', hrow'⟩ := own_blk hown
  have gO := blk_neT kO hrow' (by decide)
  have hx : Ex (b :: O :: S :: vb v) W (W'.setCell ⟨O, c, none⟩ (.slice (some ⟨g', 0, none⟩) k' cap')) := by
    refine Ex.set_in (.inl (by simp)) ?_ _
    exact Ex.of_grown hg (fun r e => by simp [vb_mem, e])
  have hY : ∀ x ∈ (b :: O :: S :: vb (.slice (some ⟨g', 0, none⟩) k' cap')), x ∈ (b :: O :: S :: vb v) ∨ W.heap.size ≤ x := by
    intro x hx
    simp only [List.mem_cons, vb_mem] at hx ⊢
    rcases hx with h1 | h1 | h1 | h1
    · exact .inl (.inl h1)
    · exact .inl (.inr (.inl h1))
    · exact .inl (.inr (.inr (.inl h1)))
    · have e : x = g' := by simpa [Value.ownBlock] using h1.symm
      subst e
      rcases hat with h2 | h2
      · exact .inl (.inr (.inr (.inr h2)))
      · exact .inr h2
  refine ⟨kO, ⟨kX.far (fun e => oX (by simpa using e.symm)) _, ?_, kS.far (fun e => oS (by simpa using e.symm)) _, ?_, h.vl, h.hc, h.sl, h.sn, h.sv, fun s u hu hs => ⟨fun hl => ((h.rows s u hu hs).1 hl).turn hx hY, (h.rows s u hu hs).2⟩, ?_, ?_, k7.far (fun e => o7 (by simpa using e.symm)) _, h.yd.turn hx hY, ?_, h.hO, h.hS, h.h7⟩⟩
  · have := kO.set_ c (.slice (some ⟨g', 0, none⟩) k' cap')
    simpa using this
  · refine kq.same ?_
    exact Below.heap_setCell W' ⟨O, c, none⟩ _ b (fun e => ob e.symm)
  · exact row_set (i := c) (u := .slice (some ⟨g', 0, none⟩) k' cap') hown kO (by decide)
  · intro e
    have e : g' = b := by simpa [Value.ownBlock] using e
    rcases hat with h2 | h2
    · exact h.vne (by rw [h2, e])
    · have := h.que.lt
      omega
  · refine Below.setCell (h.low.grown hg h.low.size (fun r e => (h.row.lt r e).1)) (p := ⟨O, c, none⟩) (Nat.le_of_lt h.hO) _
/-- A state is new: it is marked, and waits. -/
theorem GrJ.mark {z b' off' cap' : Nat} (h : GrJ w O S A0 A1 A2 n0 n1 n2 c0 c1 c2 y N vs i l c b7 D0 D1 D2 d0 d1 d2 k sm m q b off cap v W) (hz : z < N) (hn : hasI m z = false) (hq : Que W' w.heap.size b' off' (q.length + 1) cap' (q ++ [(z : Int)])) (hg : (W.setCell ⟨S, z, none⟩ (.bool true)).grownBy W' (some b)) (hat : b' = b ∨ W.heap.size ≤ b') :
    GrJ w O S A0 A1 A2 n0 n1 n2 c0 c1 c2 y N vs i l c b7 D0 D1 D2 d0 d1 d2 k (sm.set z true) (m ++ [(z : Int)]) (q ++ [(z : Int)]) b' off' cap' v W' := by
  obtain ⟨curq, hqb, _, _⟩ := h.que.cur
  have oS := blk_neT h.out h.seen (by decide)
  have sX := blk_neT h.seen h.box (by decide)
  have s7 := blk_neT h.seen h.now (by decide)
  have sb := blk_neT h.seen hqb (by decide)
  have ob := blk_neT h.out hqb (by decide)
  have xb := blk_neT h.box hqb (by decide)
  have b7b := blk_neT h.now hqb (by decide)
  have nS := row_own_neW h.row h.seen (by decide)
  have hsm : mrk sm z = false := by rw [h.sv z (mem_rng.2 ⟨by omega, by omega⟩), hn]
  have hzl : z < sm.length := by rw [h.sl]; exact hz
  have hget : sm[z]? = some false := by
    rw [List.getElem?_eq_getElem hzl]
    unfold mrk at hsm
    simp [List.getD_eq_getElem?_getD, hzl] at hsm
    rw [hsm]
  have hx : Ex (b :: O :: S :: vb v) W W' := (ex_set (W := W) (X := b :: O :: S :: vb v) (g := S) (by simp) z (.bool true)).trans (Ex.of_grown hg (fun r e => by cases e; simp))
  have hY : ∀ x ∈ (b' :: O :: S :: vb v), x ∈ (b :: O :: S :: vb v) ∨ W.heap.size ≤ x := by
    intro x hx
    simp only [List.mem_cons] at hx ⊢
    rcases hx with h1 | h1 | h1 | h1
    · subst h1
      rcases hat with h2 | h2
      · exact .inl (.inl h2)
      · exact .inr h2
    · exact .inl (.inr (.inl h1))
    · exact .inl (.inr (.inr (.inl h1)))
    · exact .inl (.inr (.inr (.inr h1)))
  have far : ∀ {g t cs}, Blk W g t cs → g ≠ S → g ≠ b → Blk W' g t cs := fun hk h1 h2 => (hk.far (p := ⟨S, z, none⟩) h1 (.bool true)).grown hg (fun e => h2 (by simpa using e))
  refine ⟨far h.box (fun e => sX e.symm) xb, far h.out oS ob, ?_, by rw [List.length_append]; exact hq, h.vl, h.hc, by rw [List.length_set]; exact h.sl, ?_, fun x hx0 => ?_, fun s u hu hs => ⟨fun hl => ((h.rows s u hu hs).1 hl).turn hx hY, (h.rows s u hu hs).2⟩, ?_, ?_, far h.now (fun e => s7 e.symm) b7b, h.yd.turn hx hY, ?_, h.hO, h.hS, h.h7⟩
  · have h1 := (h.seen.set_ z (.bool true)).grown hg (fun e => sb (by simpa using e))
    rw [bls_set] at h1
    exact h1
  · have := count_set hget
    have := h.sn
    rw [List.length_append]
    simp only [List.length_cons, List.length_nil]
    omega
  · have hx2 := mem_rng.1 hx0
    rw [mk_set, h.sv x hx0]
    unfold hasI
    rw [List.contains_eq_any_beq, List.contains_eq_any_beq, List.any_append]
    congr 1
    simp only [List.any_cons, List.any_nil, Bool.or_false]
    rw [Bool.eq_iff_iff]
    simp
    omega
  · have h1 := row_set (i := z) (u := .bool true) h.row h.seen (by decide)
    exact h1.kept hg (.inr h.vne)
  · intro e
    rcases hat with h2 | h2
    · exact h.vne (by rw [e, h2])
    · have := (h.row.lt _ e).2
      omega
  · refine Below.grown (Below.setCell h.low (p := ⟨S, z, none⟩) (Nat.le_of_lt h.hS) _) hg ?_ (fun r e => by cases e; exact h.que.lo)
    simpa [World.setCell] using h.low.size
/-- To a state's switches, and back. -/
theorem GrO.enter {x : Int} {off1 cap1 : Nat} (h : GrO w O S A0 A1 A2 n0 n1 n2 c0 c1 c2 y N vs sm i l (x :: q) b off cap W) (hq : Que W w.heap.size b off1 q.length cap1 q) (hc : c < N) (hcn : (c : Int) ∉ l.take i) (hnow : Blk W b7 26 #[.slice D0 y.s.length d0, .slice D1 y.w.length d1, .slice D2 y.p.length d2]) (hyd : YdR [b, O, S] W (y.at c) D0 D1 D2 y.s.length y.w.length y.p.length) (h7 : w.heap.size < b7) :
    GrJ w O S A0 A1 A2 n0 n1 n2 c0 c1 c2 y N vs i l c b7 D0 D1 D2 d0 d1 d2 0 sm l q b off1 cap1 (.slice none 0 0) W := by
  have hcv : c < vs.length := by rw [h.vl]; exact hc
  have e0 : vs[c] = .slice none 0 0 := (h.rows c _ (List.getElem?_eq_getElem hcv)).2 hcn
  have e1 : vs.set c (.slice none 0 0) = vs := by rw [← e0]; exact List.set_getElem_self hcv
  exact ⟨h.box, by rw [e1]; exact h.out, h.seen, hq, h.vl, hc, h.sl, h.sn, h.sv, fun s u hu _ => h.rows s u hu, World.ownsRow_nil _ _ _ _, by simp [Value.ownBlock], hnow, hyd, h.low, h.hO, h.hS, h7⟩
theorem GrJ.leave {g cap' : Nat} (h : GrJ w O S A0 A1 A2 n0 n1 n2 c0 c1 c2 y N vs i l c b7 D0 D1 D2 d0 d1 d2 k sm m q b off cap (.slice (some ⟨g, 0, none⟩) k cap') W) (hk : k = y.w.length) (hl : l <+: m) (hi : l[i]? = some (c : Int)) :
    GrO w O S A0 A1 A2 n0 n1 n2 c0 c1 c2 y N (vs.set c (.slice (some ⟨g, 0, none⟩) k cap')) sm (i + 1) m q b off cap W := by
  subst hk
  have hil : i < l.length := (List.getElem?_eq_some_iff.1 hi).1
  have et : m.take (i + 1) = l.take i ++ [(c : Int)] := by
    obtain ⟨t, rfl⟩ := hl
    rw [List.take_append_of_le_length (by omega), List.take_add_one, hi]
    rfl
  have nO := row_own_neW h.row h.out (by decide)
  have nS := row_own_neW h.row h.seen (by decide)
  have hown : Own W w.heap.size 3 1 g y.w.length cap' ((gRow y c y.w.length).map (.int .i64)) := h.row
  refine ⟨h.box, h.out, h.seen, h.que, by rw [List.length_set]; exact h.vl, h.sl, h.sn, h.sv, fun s u hu => ?_, h.low, h.hO, h.hS⟩
  rw [et]
  by_cases hs : s = c
  · subst hs
    rw [List.getElem?_set_self (by rw [h.vl]; exact h.hc)] at hu
    cases hu
    refine ⟨fun _ => ?_, fun hn => absurd (by simp) hn⟩
    have hl2 : (gRow y s y.w.length).length = y.w.length := gRow_len _ _ _
    have := RowS.own (X := [b, O, S]) (W := W) (base := w.heap.size) (g := g) (c := cap') (zs := gRow y s y.w.length) (by rw [hl2]; exact hown) (fun hx => by
      simp only [List.mem_cons, List.not_mem_nil, or_false] at hx
      rcases hx with rfl | rfl | rfl
      · exact h.vne rfl
      · exact nO rfl
      · exact nS rfl)
    rw [hl2] at this
    exact this
  · rw [List.getElem?_set_ne (fun e => hs e.symm)] at hu
    obtain ⟨h1, h2⟩ := h.rows s u hu hs
    refine ⟨fun hm => ?_, fun hn => h2 (fun hm => hn (List.mem_append_left _ hm))⟩
    rcases List.mem_append.1 hm with hm | hm
    · refine (h1 hm).turn (Ex.refl _ _) (fun x hx => .inl ?_)
      simp only [List.mem_cons, List.not_mem_nil, or_false] at hx ⊢
      rcases hx with rfl | rfl | rfl
      · exact .inl rfl
      · exact .inr (.inl rfl)
      · exact .inr (.inr (.inl rfl))
    · exfalso
      simp at hm
      omega
end
/-- What the graph is. -/
structure GrS (W : World) (A : Option Addr) (y : Yd) (N : Nat) (vs : List Value) : Prop where
  rd : Reads W W.heap.size 1 A N vs
  row : ∀ (s : Nat) (v : Value), vs[s]? = some v → ((s : Int) ∈ reachB y → ∃ g c, v = .slice (some ⟨g, 0, none⟩) y.w.length c ∧ Reads W W.heap.size 1 (some ⟨g, 0, none⟩) y.w.length ((gRow y s y.w.length).map (.int .i64))) ∧ ((s : Int) ∉ reachB y → v = .slice none 0 0)
theorem GrS.kept {W W' : World} {A : Option Addr} {y : Yd} {N : Nat} {vs : List Value} (h : GrS W A y N vs) (hb : Below W.heap.size W W') : GrS W' A y N vs :=
  ⟨(h.rd.below hb).more hb.size, fun s v hv => ⟨fun hs => let ⟨g, c, e, r⟩ := (h.row s v hv).1 hs; ⟨g, c, e, (r.below hb).more hb.size⟩, (h.row s v hv).2⟩⟩
theorem GrO.done {w : World} {O S : Nat} {A0 A1 A2 : Option Addr} {n0 n1 n2 c0 c1 c2 : Nat} {y : Yd} {N : Nat} {vs : List Value} {sm : List Bool} {i : Nat} {l : List Int} {b off cap : Nat} {W : World} (h : GrO w O S A0 A1 A2 n0 n1 n2 c0 c1 c2 y N vs sm i l [] b off cap W) (hb : Bf (nbS y) (y0 y) (rng (2 ^ y.w.length)) i l) (hi : i = l.length) : GrS W (some ⟨O, 0, none⟩) y N vs := by
  subst hi
  have hmem : ∀ s, s ∈ l ↔ s ∈ reachB y := fun s => hb.mem.trans (reachB_ok y).mem.symm
  refine ⟨?_, fun s v hv => ?_⟩
  · have := Reads.blk (size := 1) (n := N) h.out (by simp [h.vl])
    simpa using this.more h.out.lt
  · have h1 := h.rows s v hv
    rw [List.take_length] at h1
    refine ⟨fun hs => ?_, fun hs => h1.2 (fun hl => hs ((hmem _).1 hl))⟩
    obtain ⟨g, c, e, r⟩ := h1.1 ((hmem _).2 hs)
    rw [gRow_len] at e r
    exact ⟨g, c, e, r _ (Ex.refl _ _)⟩
end Go.Proofs.YtphlojgmfkgeiaaGreatDoor
