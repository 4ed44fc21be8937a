/- Joined texts: ZO ZJ. -/
import Derived.Test.YtphlojgmfkgeiaaGreatDoorKg
import Derived.Test.YtphlojgmfkgeiaaGreatDoorKb
import Derived.WalkMore
/- Rows in a world that turns at some blocks; appends of a literal that lies anywhere; the places of a search. -/
namespace Go.Proofs.YtphlojgmfkgeiaaGreatDoor
open Go.RowKit Go.Sort Go.Shelf
set_option linter.unusedSimpArgs false
set_option linter.unusedVariables false
attribute [local go_sem] cell_if frozen_if grow_cell
theorem Ex.of_grown {X : List Nat} {w w' : World} {row : Option Nat} (h : w.grownBy w' row) (hr : ∀ r, row = some r → r ∈ X) : Ex X w w' :=
  ⟨h.os, h.tape, h.output, h.size, fun k hk hn => h.block k hk (fun e => hn (hr k e.symm))⟩
theorem World.grownBy_trans_alloc {w w' : World} {o : Obj} {row : Option Nat} (h : (w.alloc o).grownBy w' row) : w.grownBy w' row :=
  ⟨h.os, h.tape, h.output, by have := h.size; rw [World.size_alloc] at this; omega, fun k hk hn => (h.block k (by rw [World.size_alloc]; omega) hn).trans (Below.heap_alloc w _ k hk)⟩
theorem Ex.trans {X : List Nat} {a b c : World} (h : Ex X a b) (k : Ex X b c) : Ex X a c :=
  ⟨k.os.trans h.os, k.tape.trans h.tape, k.output.trans h.output, Nat.le_trans h.size k.size, fun i hi hn => (k.block i (Nat.lt_of_lt_of_le hi h.size) hn).trans (h.block i hi hn)⟩
theorem Ex.sub {X Y : List Nat} {a b : World} (h : Ex X a b) (hs : ∀ x ∈ X, x < a.heap.size → x ∈ Y) : Ex Y a b :=
  ⟨h.os, h.tape, h.output, h.size, fun i hi hn => h.block i hi (fun hx => hn (hs i hx hi))⟩
theorem Ex.of_below {X : List Nat} {a b : World} (h : Below a.heap.size a b) : Ex X a b := (Ex.refl X a).grown h
theorem Ex.lower {X : List Nat} {a b : World} {B : Nat} (h : Ex X a b) (hB : B ≤ a.heap.size) (hX : ∀ x ∈ X, B ≤ x) : Below B a b :=
  ⟨h.os, h.tape, h.output, h.size, fun k hk => h.block k (by omega) (fun hx => by have := hX k hx; omega)⟩
theorem Blk.ex {X : List Nat} {w w' : World} {g : Nat} {t : TypeId} {cs : Array Value} (h : Blk w g t cs) (hb : Ex X w w') (hg : g ∉ X) : Blk w' g t cs := (hb.block g h.lt hg).trans h
theorem row_ex {X : List Nat} {w w' : World} {base size n : Nat} {e : TypeId} {v : Value} {xs : List Value} (h : w.ownsRow base e size v n xs) (hb : Ex X w w') (hX : ∀ x ∈ X, x < base) : w'.ownsRow base e size v n xs := by
  obtain ⟨h1, h2⟩ := h
  refine ⟨h1, ?_⟩
  rcases h2 with h2 | ⟨g, cap, cur, hv, hg, hh, r⟩
  · exact Or.inl h2
  · refine Or.inr ⟨g, cap, cur, hv, hg, ?_, r⟩
    exact (hb.block g (Array.getElem?_eq_some_iff.1 hh).1 (fun hx => by have := hX g hx; omega)).trans hh
theorem Own.ex {X : List Nat} {w w' : World} {base size g l cap : Nat} {e : TypeId} {xs : List Value} (h : Own w base e size g l cap xs) (hb : Ex X w w') (hg : g ∉ X) : Own w' base e size g l cap xs :=
  h.same (hb.block g h.lt.2 hg)
theorem OwnYd.ex {X : List Nat} {base : Nat} {y : Yd} {v0 v2 : Value} {g : Nat} {w w' : World} (h : OwnYd base y v0 v2 g w) (hb : Ex X w w') (hX : ∀ x ∈ X, x < base) : OwnYd base y v0 v2 g w' :=
  ⟨row_ex h.1 hb hX, h.2.1.ex hb (fun hx => by have := hX g hx; have := h.2.2.1; omega), h.2.2.1, row_ex h.2.2.2 hb hX⟩
/-- append of a literal's elements, wherever the literal lies. -/
theorem wp_appB {P : Program} {o : Oper} {a : Act} {K : Act → World → Prop} {Q : Exit → Act → World → Prop} {w : World} (t e size bytes : Nat) (E : Elem P t e size bytes) (s x : Operand)
    (ho : o.op = .call { callee := .builtin .append, args := #[s, x], argTypes := #[t, t] }) (base : Nat) (v : Value) (n : Nat) (xs : List Value) (hs : a.eval s = v) (hown : w.ownsRow base e size v n xs) (bl m : Nat) (cs : Array Value) (hx : a.eval x = .slice (some ⟨bl, 0, none⟩) m m)
    (hbl : Blk w bl e cs) (hl : cs.size = m * size) (h1 : ∀ u ∈ cs.toList, u.oneCell' = true) (hm : 0 < m) (h63 : n + m ≤ maxLen) (hbytes : (n + m) * bytes ≤ 140737488355328) (hbase : base ≤ w.heap.size)
    (h : ∀ g cap w', Own w' base e size g (n + m) cap (xs ++ cs.toList) → w.grownBy w' v.ownBlock → (v.ownBlock = some g ∨ g = w.heap.size) → K (a.put o.dst (.slice (some ⟨g, 0, none⟩) (n + m) cap)) w') : o.wp P a w K Q := by
  obtain ⟨ht, ⟨i, z, h1', h2', h3', h4', h5'⟩, hp⟩ := E
  refine wp_append_lies w s x t ho base e i z size bytes ht h1' h2' h3' h4' h5' hp v n xs hs hown ⟨bl, 0, none⟩ m m cs.toList hx (by simpa using hl) (fun j u hu => ?_) h1 hm h63 hbytes hbase _ rfl ?_
  · rw [Addr.add_lit, hbl.cell]
    simpa using hu
  · intro g cap w' hown' hg hat _
    exact h g cap w' hown' hg hat
theorem wpList_appB {P : Program} {ops : Array Oper} {rest : List Oper} {o : Oper} {a : Act} {Q : Exit → Act → World → Prop} {w : World} (t e size bytes : Nat) (E : Elem P t e size bytes) (hgd : o.guard = none) (s x : Operand)
    (ho : o.op = .call { callee := .builtin .append, args := #[s, x], argTypes := #[t, t] }) (base : Nat) (v : Value) (n : Nat) (xs : List Value) (hs : a.eval s = v) (hown : w.ownsRow base e size v n xs) (bl m : Nat) (cs : Array Value) (hx : a.eval x = .slice (some ⟨bl, 0, none⟩) m m)
    (hbl : Blk w bl e cs) (hl : cs.size = m * size) (h1 : ∀ u ∈ cs.toList, u.oneCell' = true) (hm : 0 < m) (h63 : n + m ≤ maxLen) (hbytes : (n + m) * bytes ≤ 140737488355328) (hbase : base ≤ w.heap.size)
    (h : ∀ g cap w', Own w' base e size g (n + m) cap (xs ++ cs.toList) → w.grownBy w' v.ownBlock → (v.ownBlock = some g ∨ g = w.heap.size) → wpList P ops Q rest (a.put o.dst (.slice (some ⟨g, 0, none⟩) (n + m) cap)) w') : wpList P ops Q (o :: rest) a w :=
  wpList_plain hgd fun _ hK => wp_appB t e size bytes E s x ho base v n xs hs hown bl m cs hx hbl hl h1 hm h63 hbytes hbase fun g cap w' h2 h3 h4 => hK _ _ (h g cap w' h2 h3 h4)
theorem one_int (l : List Int) : ∀ v ∈ l.map (Value.int .i64), v.oneCell' = true := by
  intro v hv
  obtain ⟨x, _, rfl⟩ := List.mem_map.1 hv
  rfl
/-- The cells of a place: its yard's slices, its moves. -/
structure PlV where
  A0 : Option Addr
  A1 : Option Addr
  A2 : Option Addr
  M : Option Addr
  n0 : Nat
  n1 : Nat
  n2 : Nat
  m : Nat
  c0 : Nat
  c1 : Nat
  c2 : Nat
  c : Nat
def PlV.cells (v : PlV) : List Value := [.slice v.A0 v.n0 v.c0, .slice v.A1 v.n1 v.c1, .slice v.A2 v.n2 v.c2, .slice v.M v.m v.c]
def plvs (l : List PlV) : List Value := l.flatMap PlV.cells
def zeroP : Array Value := #[.slice none 0 0, .slice none 0 0, .slice none 0 0, .slice none 0 0]
structure PlAt (W : World) (y : Yd) (v : PlV) (p : Pl) : Prop where
  yd : YdAt W W.heap.size v.A0 v.A1 v.A2 v.n0 v.n1 v.n2 (y.at p.s)
  mv : Reads W W.heap.size 1 v.M v.m (p.m.map (.int .i64))
/-- A place that stays, whatever becomes of the blocks Tryz. -/
def PlR (X : List Nat) (W : World) (y : Yd) (v : PlV) (p : Pl) : Prop := ∀ W', Ex X W W' → PlAt W' y v p
theorem PlR.here {X : List Nat} {W : World} {y : Yd} {v : PlV} {p : Pl} (h : PlR X W y v p) : PlAt W y v p := h W (Ex.refl _ _)
theorem PlR.ex {X : List Nat} {W W1 : World} {y : Yd} {v : PlV} {p : Pl} (h : PlR X W y v p) (hb : Ex X W W1) : PlR X W1 y v p := fun W' h' => h W' (hb.trans h')
/-- The blocks may be others, if these are new. -/
theorem PlR.turn {X Y : List Nat} {W W1 : World} {y : Yd} {v : PlV} {p : Pl} (h : PlR X W y v p) (hb : Ex X W W1) (hY : ∀ x ∈ Y, x ∈ X ∨ W.heap.size ≤ x) : PlR Y W1 y v p := fun W' h' =>
  h W' ⟨h'.os.trans hb.os, h'.tape.trans hb.tape, h'.output.trans hb.output, Nat.le_trans hb.size h'.size, fun k hk hn =>
    (h'.block k (Nat.lt_of_lt_of_le hk hb.size) (fun hy => by
      rcases hY k hy with h1 | h1
      · exact hn h1
      · omega)).trans (hb.block k hk hn)⟩
theorem Reads.ex {X : List Nat} {W W' : World} {B size n : Nat} {A : Option Addr} {xs : List Value} (h : Reads W B size A n xs) (hB : B ≤ W.heap.size) (hb : Ex X W W') (hX : ∀ x ∈ X, B ≤ x) : Reads W' W'.heap.size size A n xs :=
  (h.below (hb.lower hB hX)).more (Nat.le_trans hB hb.size)
theorem YdAt.ex {X : List Nat} {W W' : World} {B : Nat} {A0 A1 A2 : Option Addr} {n0 n1 n2 : Nat} {y : Yd} (h : YdAt W B A0 A1 A2 n0 n1 n2 y) (hB : B ≤ W.heap.size) (hb : Ex X W W') (hX : ∀ x ∈ X, B ≤ x) : YdAt W' W'.heap.size A0 A1 A2 n0 n1 n2 y :=
  (h.below (hb.lower hB hX)).more (Nat.le_trans hB hb.size)
theorem PlR.old {X : List Nat} {W : World} {B : Nat} {y : Yd} {v : PlV} {p : Pl} (h : YdAt W B v.A0 v.A1 v.A2 v.n0 v.n1 v.n2 (y.at p.s)) (hm : Reads W B 1 v.M v.m (p.m.map (.int .i64))) (hB : B ≤ W.heap.size) (hX : ∀ x ∈ X, B ≤ x) : PlR X W y v p :=
  fun _ h' => ⟨h.ex hB h' hX, hm.ex hB h' hX⟩
theorem PlR.own {X : List Nat} {W : World} {base base' : Nat} {y z : Yd} {v : PlV} {p : Pl} {g gm : Nat} (hz : y.at p.s = z) (h : OwnYd base z (.slice v.A0 z.s.length v.c0) (.slice v.A2 z.p.length v.c2) g W) (h0 : v.n0 = z.s.length) (h1 : v.n1 = z.w.length) (h2 : v.n2 = z.p.length) (hg : v.A1 = some ⟨g, 0, none⟩)
    (hm : Own W base' 3 1 gm v.m v.c (p.m.map (.int .i64))) (hgm : v.M = some ⟨gm, 0, none⟩) (hX : ∀ x ∈ X, x < base ∧ x < base') : PlR X W y v p := fun W' h' => by
  have e1 := h.ex h' (fun x hx => (hX x hx).1)
  have e2 := hm.ex h' (fun hx => by have := (hX gm hx).2; have := hm.lt.1; omega)
  refine ⟨?_, ?_⟩
  · rw [hz, h0, h1, h2, hg]
    exact yd_own e1
  · rw [hgm]
    exact e2.reads.more e2.lt.2
/-- A yard that stays, whatever becomes of the blocks Tryz. -/
def YdR (X : List Nat) (W : World) (z : Yd) (A0 A1 A2 : Option Addr) (n0 n1 n2 : Nat) : Prop := ∀ W', Ex X W W' → YdAt W' W'.heap.size A0 A1 A2 n0 n1 n2 z
theorem YdR.of_own {X : List Nat} {W : World} {base g : Nat} {z : Yd} {A0 A2 : Option Addr} {c0 c2 : Nat} (h : OwnYd base z (.slice A0 z.s.length c0) (.slice A2 z.p.length c2) g W) (hX : ∀ x ∈ X, x < base) : YdR X W z A0 (some ⟨g, 0, none⟩) A2 z.s.length z.w.length z.p.length := fun W' h' => yd_own (h.ex h' hX)
theorem YdR.ex {X : List Nat} {W W1 : World} {z : Yd} {A0 A1 A2 : Option Addr} {n0 n1 n2 : Nat} (h : YdR X W z A0 A1 A2 n0 n1 n2) (hb : Ex X W W1) : YdR X W1 z A0 A1 A2 n0 n1 n2 := fun W' h' => h W' (hb.trans h')
theorem YdR.turn {X Y : List Nat} {W W1 : World} {z : Yd} {A0 A1 A2 : Option Addr} {n0 n1 n2 : Nat} (h : YdR X W z A0 A1 A2 n0 n1 n2) (hb : Ex X W W1) (hY : ∀ x ∈ Y, x ∈ X ∨ W.heap.size ≤ x) : YdR Y W1 z A0 A1 A2 n0 n1 n2 := fun W' h' =>
  h W' ⟨h'.os.trans hb.os, h'.tape.trans hb.tape, h'.output.trans hb.output, Nat.le_trans hb.size h'.size, fun k hk hn =>
    (h'.block k (Nat.lt_of_lt_of_le hk hb.size) (fun hy => by
      rcases hY k hy with h1 | h1
      · exact hn h1
      · omega)).trans (hb.block k hk hn)⟩
theorem PlR.mk {X : List Nat} {W : World} {base g : Nat} {y : Yd} {v : PlV} {p : Pl} (h : YdR X W (y.at p.s) v.A0 v.A1 v.A2 v.n0 v.n1 v.n2) (hm : Own W base 3 1 g v.m v.c (p.m.map (.int .i64))) (hg : v.M = some ⟨g, 0, none⟩) (hX : ∀ x ∈ X, x < base) : PlR X W y v p := fun W' h' => by
  have e2 := hm.ex h' (fun hx => by have := hX g hx; have := hm.lt.1; omega)
  exact ⟨h W' h', by rw [hg]; exact e2.reads.more e2.lt.2⟩
/-- A function value that says of a yard's states whether they are found; it leaves all that lay in w. -/
def PredY (P : Program) (g : Nat) (bs cap : Array Value) (y : Yd) (found : Int → Bool) (w : World) : Prop :=
  ∀ W, Below w.heap.size w W → ∀ s, s ∈ rng (2 ^ y.w.length) → ∀ (A0 A1 A2 : Option Addr) (n0 n1 n2 c0 c1 c2 : Nat), YdAt W W.heap.size A0 A1 A2 n0 n1 n2 (y.at s) → Calls P g (bs ++ #[.agg #[.slice A0 n0 c0, .slice A1 n1 c1, .slice A2 n2 c2]] ++ cap) W fun e w' => e = .returned (.bool (found s)) ∧ Below W.heap.size W w'
/-- The search in memory: qs the states that are seen, ps the places. -/
structure SrI (w : World) (y : Yd) (b9 : Nat) (A0 A1 A2 : Option Addr) (n0 n1 n2 c0 c1 c2 : Nat) (qs ps : List Pl) (gs cs gp cp : Nat) (vs : List PlV) (W : World) : Prop where
  seen : Own W w.heap.size 3 1 gs qs.length cs ((qs.map Pl.s).map (.int .i64))
  plc : Own W w.heap.size 129 4 gp ps.length cp (plvs vs)
  vl : vs.length = ps.length
  pls : ∀ (j : Nat) (v : PlV) (p : Pl), vs[j]? = some v → ps[j]? = some p → PlR [gs, gp, w.heap.size + 1, b9] W y v p
  box : Blk W w.heap.size 41 #[.slice A0 n0 c0, .slice A1 n1 c1, .slice A2 n2 c2]
  z5 : Blk W (w.heap.size + 1) 129 zeroP
  z9 : Blk W b9 129 zeroP
  n5 : gp ≠ w.heap.size + 1
  n9 : gp ≠ b9
  n59 : b9 ≠ w.heap.size + 1
  h9 : w.heap.size ≤ b9
  low : Below w.heap.size w W
section
variable {w : World} {y : Yd} {b9 : Nat} {A0 A1 A2 : Option Addr} {n0 n1 n2 c0 c1 c2 : Nat} {qs ps : List Pl} {gs cs gp cp : Nat} {vs : List PlV} {W W' : World}
theorem SrI.kept (h : SrI w y b9 A0 A1 A2 n0 n1 n2 c0 c1 c2 qs ps gs cs gp cp vs W) (hb : Below W.heap.size W W') : SrI w y b9 A0 A1 A2 n0 n1 n2 c0 c1 c2 qs ps gs cs gp cp vs W' :=
  ⟨h.seen.kept hb, h.plc.kept hb, h.vl, fun j v p hv hp => (h.pls j v p hv hp).ex (Ex.of_below hb), h.box.kept hb, h.z5.kept hb, h.z9.kept hb, h.n5, h.n9, h.n59, h.h9, h.low.trans (hb.mono h.low.size)⟩
theorem own_ne {base base' size size' g g' l l' c c' : Nat} {e e' : TypeId} {xs xs' : List Value} (h : Own W base e size g l c xs) (h' : Own W base' e' size' g' l' c' xs') (he : e ≠ e') : g ≠ g' := by
  rintro rfl
  rcases h.2 with ⟨h0, _⟩ | ⟨g1, cap1, cur1, hv, _, hh, _⟩
  · cases h0
  · injection hv with h1
    injection h1 with h1
    injection h1 with h1
    subst h1
    exact row_ne h' hh (fun cs m e2 => by injection e2 with _ h2 _; exact he h2) rfl
theorem SrI.gne (h : SrI w y b9 A0 A1 A2 n0 n1 n2 c0 c1 c2 qs ps gs cs gp cp vs W) : gs ≠ gp := own_ne h.seen h.plc (by decide)
/-- A state more is seen. -/
theorem SrI.addSeen {g' cs' : Nat} {q : Pl} (h : SrI w y b9 A0 A1 A2 n0 n1 n2 c0 c1 c2 qs ps gs cs gp cp vs W) (hg : W.grownBy W' (some gs)) (hat : g' = gs ∨ W.heap.size ≤ g') (hown : Own W' w.heap.size 3 1 g' (qs.length + 1) cs' ((qs.map Pl.s).map (.int .i64) ++ [.int .i64 q.s])) : SrI w y b9 A0 A1 A2 n0 n1 n2 c0 c1 c2 (qs ++ [q]) ps g' cs' gp cp vs W' := by
  have hgl := h.seen.lt
  refine ⟨by simpa using hown, h.plc.same (hg.block _ h.plc.lt.2 (fun e => h.gne (by injection e with e; exact e.symm))), h.vl, fun j v p hv hp => ?_, h.box.grown hg (fun e => row_blk h.seen h.box (by decide) (by injection e)), h.z5.grown hg (fun e => row_blk h.seen h.z5 (by decide) (by injection e)), h.z9.grown hg (fun e => row_blk h.seen h.z9 (by decide) (by injection e)), h.n5, h.n9, h.n59, h.h9, h.low.grown hg h.low.size (fun k e => by cases e; exact hgl.1)⟩
  refine (h.pls j v p hv hp).turn (Ex.of_grown hg (fun r e => by cases e; simp)) (fun x hx => ?_)
  simp only [List.mem_cons, List.not_mem_nil, or_false] at hx ⊢
  rcases hx with rfl | rfl | rfl | rfl
  · rcases hat with rfl | hat
    · simp
    · exact .inr hat
  · simp
  · simp
  · simp
/-- A place more. -/
theorem SrI.addPl {g' cp' : Nat} {p : Pl} {v : PlV} (h : SrI w y b9 A0 A1 A2 n0 n1 n2 c0 c1 c2 qs ps gs cs gp cp vs W) (hg : W.grownBy W' (some gp)) (hat : g' = gp ∨ g' = W.heap.size) (hown : Own W' w.heap.size 129 4 g' (ps.length + 1) cp' (plvs vs ++ v.cells)) (hv : PlR [gs, gp, w.heap.size + 1, b9] W y v p) : SrI w y b9 A0 A1 A2 n0 n1 n2 c0 c1 c2 qs (ps ++ [p]) gs cs g' cp' (vs ++ [v]) W' := by
  have hgl := h.plc.lt
  have l5 := h.z5.lt
  have l9 := h.z9.lt
  have h5 := h.n5
  have h9 := h.n9
  have turn : ∀ {v p}, PlR [gs, gp, w.heap.size + 1, b9] W y v p → PlR [gs, g', w.heap.size + 1, b9] W' y v p := fun {v p} hr =>
    hr.turn (Ex.of_grown hg (fun r e => by cases e; simp)) (fun x hx => by
      simp only [List.mem_cons, List.not_mem_nil, or_false] at hx ⊢
      rcases hx with rfl | rfl | rfl | rfl
      · simp
      · rcases hat with rfl | hat
        · simp
        · exact .inr (by omega)
      · simp
      · simp)
  refine ⟨h.seen.same (hg.block _ h.seen.lt.2 (fun e => h.gne (by injection e))), by rw [List.length_append, show plvs (vs ++ [v]) = plvs vs ++ v.cells by simp [plvs]]; exact hown, by simp [h.vl], fun j v' p' hv' hp' => ?_, h.box.grown hg (fun e => row_blk h.plc h.box (by decide) (by injection e)), h.z5.grown hg (fun e => h5 (by injection e with e; exact e.symm)), h.z9.grown hg (fun e => h9 (by injection e with e; exact e.symm)), ?_, ?_, h.n59, h.h9, h.low.grown hg h.low.size (fun k e => by cases e; exact hgl.1)⟩
  · rcases Nat.lt_or_ge j vs.length with hj | hj
    · rw [List.getElem?_append_left hj] at hv'
      rw [List.getElem?_append_left (by rw [← h.vl]; exact hj)] at hp'
      exact turn (h.pls j v' p' hv' hp')
    · have hj0 : j = vs.length := by
        have := (List.getElem?_eq_some_iff.1 hv').1
        simp at this
        omega
      subst hj0
      simp at hv'
      rw [h.vl] at hp'
      simp at hp'
      subst hv'
      subst hp'
      exact turn hv
  · rcases hat with rfl | hat <;> omega
  · rcases hat with rfl | hat <;> omega
end
theorem SrI.start {w w1 : World} {B : Nat} {A0 A1 A2 : Option Addr} {n0 n1 n2 c0 c1 c2 : Nat} {y : Yd} (hY : YdAt w B A0 A1 A2 n0 n1 n2 y) (hB : B ≤ w.heap.size) (hb : Below ((w.alloc (.cells #[.slice A0 n0 c0, .slice A1 n1 c1, .slice A2 n2 c2] 41)).alloc (.cells zeroP 129)).heap.size ((w.alloc (.cells #[.slice A0 n0 c0, .slice A1 n1 c1, .slice A2 n2 c2] 41)).alloc (.cells zeroP 129)) w1) :
    SrI w y (w1.heap.size + 1 + 1) A0 A1 A2 n0 n1 n2 c0 c1 c2 [⟨y0 y, []⟩] [⟨y0 y, []⟩] w1.heap.size 1 (w1.heap.size + 1) 1 [⟨A0, A1, A2, none, n0, n1, n2, 0, c0, c1, c2, 0⟩] (((w1.alloc (.cells #[.int .i64 (y0 y)] 3)).alloc (.cells #[.slice A0 n0 c0, .slice A1 n1 c1, .slice A2 n2 c2, .slice none 0 0] 129)).alloc (.cells zeroP 129)) := by
  have hs := hb.size
  simp at hs
  have hlow : Below w.heap.size w (((w1.alloc (.cells #[.int .i64 (y0 y)] 3)).alloc (.cells #[.slice A0 n0 c0, .slice A1 n1 c1, .slice A2 n2 c2, .slice none 0 0] 129)).alloc (.cells zeroP 129)) := bl_
  have o1 := ((Own.new w1 w.heap.size 3 1 1 #[.int .i64 (y0 y)] (by omega) rfl (by decide)).alloc (.cells #[.slice A0 n0 c0, .slice A1 n1 c1, .slice A2 n2 c2, .slice none 0 0] 129)).alloc (.cells zeroP 129)
  have o2 := (Own.new (w1.alloc (.cells #[.int .i64 (y0 y)] 3)) w.heap.size 129 4 1 #[.slice A0 n0 c0, .slice A1 n1 c1, .slice A2 n2 c2, .slice none 0 0] (by simp; omega) rfl (by decide)).alloc (.cells zeroP 129)
  rw [World.size_alloc] at o2
  refine ⟨o1, o2, rfl, fun j v p hv hp => ?_, bk_, bk_, bk_, by omega, by omega, by omega, by omega, hlow⟩
  cases j with
  | succ j => simp at hp
  | zero =>
    simp at hp hv
    subst hp
    subst hv
    refine PlR.old (B := B) ?_ Reads.nil_ (by simp; omega) (fun x hx => ?_)
    · have e : y.at (y0 y) = y := by show { y with w := withL y.w (stUp y.w y.w.length) } = y; rw [withL_self]
      rw [e]
      exact hY.below (hlow.mono hB)
    · simp at hx
      omega
end Go.Proofs.YtphlojgmfkgeiaaGreatDoor
/- The search: the walk. -/
namespace Go.Proofs.YtphlojgmfkgeiaaGreatDoor
open Go.RowKit Go.Sort Go.Shelf
set_option linter.unusedSimpArgs false
set_option linter.unusedVariables false
attribute [local go_sem] cell_if frozen_if grow_cell
theorem elemPl : Elem Tryz.prog 182 129 4 96 := elem_of Tryz.underlying182 (z := .agg #[.slice none 0 0, .slice none 0 0, .slice none 0 0, .slice none 0 0]) (by kernel_rfl) rfl (by decide)
def SearchRes (w : World) (y : Yd) (r : List Pl × Option Pl) (e : Ending) (w' : World) : Prop :=
  ∃ g cap v, e = .returned (.tuple #[.slice (some ⟨g, 0, none⟩) r.1.length cap, .agg #[.slice v.A0 v.n0 v.c0, .slice v.A1 v.n1 v.c1, .slice v.A2 v.n2 v.c2, .slice v.M v.m v.c], .bool r.2.isSome]) ∧ Reads w' w'.heap.size 1 (some ⟨g, 0, none⟩) r.1.length ((sortI (r.1.map Pl.s)).map (.int .i64)) ∧ (∀ p, r.2 = some p → PlAt w' y v p) ∧ Below w.heap.size w w'
theorem plc_at {w : World} {base g n cap : Nat} {vs : List PlV} (h : Own w base 129 4 g n cap (plvs vs)) (k : Nat) (hk : k < vs.length) : w.cell? ⟨g, k * 4, none⟩ = some (.slice vs[k].A0 vs[k].n0 vs[k].c0) ∧ w.cell? ⟨g, k * 4 + 1, none⟩ = some (.slice vs[k].A1 vs[k].n1 vs[k].c1) ∧ w.cell? ⟨g, k * 4 + 2, none⟩ = some (.slice vs[k].A2 vs[k].n2 vs[k].c2) ∧ w.cell? ⟨g, k * 4 + 3, none⟩ = some (.slice vs[k].M vs[k].m vs[k].c) := by
  obtain ⟨_, h2⟩ := flat_at (f := PlV.cells) (m := 4) (fun _ => rfl) (by decide) h.reads
  obtain ⟨b, o, e, _, hc⟩ := h2 k hk
  cases e
  have c := fun j u hu => hc j u hu
  simp only [Nat.zero_add] at c
  exact ⟨c 0 _ rfl, c 1 _ rfl, c 2 _ rfl, c 3 _ rfl⟩
theorem pGo_none' {y : Yd} {found : Int → Bool} {f n : Nat} {ps : List Pl} (h : ps[n]? = none) : pGo y found (f + 1) n ps = (ps, none) := by simp only [pGo, h]
theorem pGo_found {y : Yd} {found : Int → Bool} {f n : Nat} {ps : List Pl} {p : Pl} (h : ps[n]? = some p) (hf : found p.s = true) : pGo y found (f + 1) n ps = (ps, some p) := by simp only [pGo, h, hf, if_true]
theorem pGo_next {y : Yd} {found : Int → Bool} {f n : Nat} {ps : List Pl} {p : Pl} (h : ps[n]? = some p) (hf : found p.s = false) : pGo y found (f + 1) n ps = pGo y found f (n + 1) (pExp y p ps y.w.length) := by simp only [pGo, h, hf, Bool.false_eq_true, if_false]
theorem zero4 {W : World} {g : Nat} {t : TypeId} (h : Blk W g t zeroP) : W.cell? ⟨g, 0, none⟩ = some (.slice none 0 0) ∧ W.cell? ⟨g, 1, none⟩ = some (.slice none 0 0) ∧ W.cell? ⟨g, 2, none⟩ = some (.slice none 0 0) ∧ W.cell? ⟨g, 3, none⟩ = some (.slice none 0 0) := ⟨h.cell 0, h.cell 1, h.cell 2, h.cell 3⟩
/-- Behind the loop: the states, the block of what is found, the block of the result; R stays, whatever becomes of the blocks Tryz. -/
structure FinI (w : World) (X : List Nat) (R : World → Prop) (b9 gs cs : Nat) (l : List Int) (a b c d : Value) (W : World) : Prop where
  seen : Own W w.heap.size 3 1 gs l.length cs (l.map (.int .i64))
  z5 : Blk W (w.heap.size + 1) 129 zeroP
  z9 : Blk W b9 129 #[a, b, c, d]
  rb : ∀ W', Ex X W W' → R W'
  xg : gs ∈ X
  x5 : w.heap.size + 1 ∈ X
  low : Below w.heap.size w W
theorem FinI.kept {w : World} {X : List Nat} {R : World → Prop} {b9 gs cs : Nat} {l : List Int} {a b c d : Value} {W W' : World} (h : FinI w X R b9 gs cs l a b c d W) (hb : Below W.heap.size W W') : FinI w X R b9 gs cs l a b c d W' :=
  ⟨h.seen.kept hb, h.z5.kept hb, h.z9.kept hb, fun W2 h2 => h.rb W2 ((Ex.of_below hb).trans h2), h.xg, h.x5, h.low.trans (hb.mono h.low.size)⟩
theorem FinI.sorted {w : World} {X : List Nat} {R : World → Prop} {b9 gs cs : Nat} {l : List Int} {a b c d : Value} {W W' : World} (h : FinI w X R b9 gs cs l a b c d W) (hO : Own W' w.heap.size 3 1 gs l.length cs ((sortI l).map (.int .i64))) (hb : Below w.heap.size W W') (hk : ∀ k, k < W.heap.size → k ≠ gs → W'.heap[k]? = W.heap[k]?) : FinI w X R b9 gs cs (sortI l) a b c d W' := by
  have hx : Ex X W W' := ⟨hb.os, hb.tape, hb.output, hb.size, fun k hk1 hn => hk k hk1 (fun e => hn (e ▸ h.xg))⟩
  have hl : (sortI l).length = l.length := by have := hO.len; simpa using this
  exact ⟨by rw [hl]; exact hO, (hk _ h.z5.lt (row_blk h.seen h.z5 (by decide))).trans h.z5, (hk _ h.z9.lt (row_blk h.seen h.z9 (by decide))).trans h.z9, fun W2 h2 => h.rb W2 (hx.trans h2), h.xg, h.x5, h.low.trans hb⟩
theorem FinI.out {w : World} {X : List Nat} {R : World → Prop} {b9 gs cs : Nat} {l : List Int} {a b c d : Value} {W : World} (h : FinI w X R b9 gs cs l a b c d W) :
    Blk ((((W.setCell ⟨w.heap.size + 1, 0, none⟩ a).setCell ⟨w.heap.size + 1, 1, none⟩ b).setCell ⟨w.heap.size + 1, 2, none⟩ c).setCell ⟨w.heap.size + 1, 3, none⟩ d) (w.heap.size + 1) 129 #[a, b, c, d] ∧ Own ((((W.setCell ⟨w.heap.size + 1, 0, none⟩ a).setCell ⟨w.heap.size + 1, 1, none⟩ b).setCell ⟨w.heap.size + 1, 2, none⟩ c).setCell ⟨w.heap.size + 1, 3, none⟩ d) w.heap.size 3 1 gs l.length cs (l.map (.int .i64)) ∧ (∀ W', Ex X ((((W.setCell ⟨w.heap.size + 1, 0, none⟩ a).setCell ⟨w.heap.size + 1, 1, none⟩ b).setCell ⟨w.heap.size + 1, 2, none⟩ c).setCell ⟨w.heap.size + 1, 3, none⟩ d) W' → R W') ∧ Below w.heap.size w ((((W.setCell ⟨w.heap.size + 1, 0, none⟩ a).setCell ⟨w.heap.size + 1, 1, none⟩ b).setCell ⟨w.heap.size + 1, 2, none⟩ c).setCell ⟨w.heap.size + 1, 3, none⟩ d) := by
  have s0 := h.z5.set_ 0 a
  have s1 := s0.set_ 1 b
  have s2 := s1.set_ 2 c
  have s3 := s2.set_ 3 d
  refine ⟨s3, row_set (row_set (row_set (row_set h.seen h.z5 (by decide)) s0 (by decide)) s1 (by decide)) s2 (by decide), fun W' h' => h.rb W' (Ex.trans ?_ h'), (((h.low.setCell (by simp) _).setCell (by simp) _).setCell (by simp) _).setCell (by simp) _⟩
  exact ((((Ex.refl X W).set_in (.inl h.x5) _).set_in (.inl h.x5) _).set_in (.inl h.x5) _).set_in (.inl h.x5) _
/-- The search ends: the place that is found is stored. -/
theorem SrI.fin {w : World} {y : Yd} {b9 : Nat} {A0 A1 A2 : Option Addr} {n0 n1 n2 c0 c1 c2 : Nat} {ps : List Pl} {gs cs gp cp : Nat} {vs : List PlV} {W : World} (h : SrI w y b9 A0 A1 A2 n0 n1 n2 c0 c1 c2 ps ps gs cs gp cp vs W) (a b c d : Value) (R : World → Prop) (hR : ∀ W', Ex [gs, gp, w.heap.size + 1, b9] W W' → R W') :
    FinI w [gs, gp, w.heap.size + 1, b9] R b9 gs cs (ps.map Pl.s) a b c d ((((W.setCell ⟨b9, 0, none⟩ a).setCell ⟨b9, 1, none⟩ b).setCell ⟨b9, 2, none⟩ c).setCell ⟨b9, 3, none⟩ d) := by
  have s0 := h.z9.set_ 0 a
  have s1 := s0.set_ 1 b
  have s2 := s1.set_ 2 c
  have s3 := s2.set_ 3 d
  have hn : w.heap.size + 1 ≠ b9 := fun e => h.n59 e.symm
  have hm : b9 ∈ [gs, gp, w.heap.size + 1, b9] := by simp
  refine ⟨?_, (((h.z5.far hn _).far hn _).far hn _).far hn _, s3, fun W' h' => hR W' (Ex.trans ?_ h'), by simp, by simp, (((h.low.setCell h.h9 _).setCell h.h9 _).setCell h.h9 _).setCell h.h9 _⟩
  · rw [List.length_map]
    exact row_set (row_set (row_set (row_set h.seen h.z9 (by decide)) s0 (by decide)) s1 (by decide)) s2 (by decide)
  · exact ((((Ex.refl _ W).set_in (.inl hm) _).set_in (.inl hm) _).set_in (.inl hm) _).set_in (.inl hm) _
theorem SrI.none {w : World} {y : Yd} {b9 : Nat} {A0 A1 A2 : Option Addr} {n0 n1 n2 c0 c1 c2 : Nat} {ps : List Pl} {gs cs gp cp : Nat} {vs : List PlV} {W : World} (h : SrI w y b9 A0 A1 A2 n0 n1 n2 c0 c1 c2 ps ps gs cs gp cp vs W) :
    FinI w [gs, gp, w.heap.size + 1, b9] (fun _ => True) b9 gs cs (ps.map Pl.s) (.slice none 0 0) (.slice none 0 0) (.slice none 0 0) (.slice none 0 0) W :=
  ⟨by rw [List.length_map]; exact h.seen, h.z5, h.z9, fun _ _ => trivial, by simp, by simp, h.low⟩
set_option maxRecDepth 100000 in
set_option maxHeartbeats 4000000 in
theorem search_any (B : Nat) (A0 A1 A2 : Option Addr) (n0 n1 n2 c0 c1 c2 : Nat) (y : Yd) (w : World) (hY : YdAt w B A0 A1 A2 n0 n1 n2 y) (hB : B ≤ w.heap.size) (hP : Parts y) (g : Nat) (bs cap : Array Value) (found : Int → Bool) (eg : Enters Tryz.prog g) (hp : PredY Tryz.prog g bs cap y found w) :
    Calls Tryz.prog 82 #[.agg #[.slice A0 n0 c0, .slice A1 n1 c1, .slice A2 n2 c2], .func (.func g) bs cap] w (SearchRes w y (searchL y found)) := by
  unfold Enters at eg
  have hl0 := (sec_at hY.hs).1
  have hl1 := (sw_at hY.hw).1
  have hl2 := (pm_at hY.hp).1
  have h8 := hP.n8
  have h8' := hP.w8
  have h8'' := hP.p8
  have hp9 := pow9 (k := y.w.length) (by omega)
  have HN : 2 ^ y.w.length ≤ 256 := Nat.pow_le_pow_right (n := 2) (by omega) h8'
  have HPR := Lib.hid hp
  have HNN := Lib.hid HN
  have HP9 := Lib.hid hp9
  clear HN hp9
  have HST := Lib.hid (fun W (hW : Below w.heap.size w W) => pstate_any B A0 A1 A2 n0 n1 n2 c0 c1 c2 y W (hY.below (hW.mono hB)) (by have := hW.size; omega) (by omega))
  have HY := Lib.hid hY
  have HPp := Lib.hid hP
  have HL1 := Lib.hid hl1
  rw [show stUp y.w n1 = y0 y by rw [← hl1]; rfl] at HST
  have HL0 := Lib.hid hl0
  have HL2 := Lib.hid hl2
  clear hl0 hl1 hl2
  clear hp hY hP
  go_enter Tryz.func82, Tryz.ntmps82
  go_wp2_with fail
  go_step3
  go_wp2_with fail
  refine (HST.out _ bl_).mono ?_
  (rintro e w1 ⟨rfl, hb1⟩; have hs1 := hb1.size; (try simp at hs1))
  obtain ⟨hc1, hf1⟩ := ifs_of hb1; have hs1 := hb1.size; (try simp at hs1)
  go_wp2_with fail
  go_step3
  go_wp2_with fail
  go_loopw [7, 8, 10, 11] (fun s7 s8 s10 s11 wr => ∃ (n : Nat) (ps : List Pl) (gs cs gp cp : Nat) (vs : List PlV), s7 = .slice (some ⟨gs, 0, none⟩) ps.length cs ∧ s8 = .slice (some ⟨gp, 0, none⟩) ps.length cp ∧ s10 = .bool false ∧ s11 = .int .i64 n ∧ n ≤ ps.length ∧ SrI w y (w1.heap.size + 1 + 1) A0 A1 A2 n0 n1 n2 c0 c1 c2 ps ps gs cs gp cp vs wr ∧ PgI y found n 0 ps ∧ Hid (pGo y found (2 ^ y.w.length + 1 - n) n ps = searchL y found)) (fun _ _ _ s11 _ => 2 ^ y.w.length + 1 - (intOf s11).toNat)
  case atStart =>
    exact ⟨0, [⟨y0 y, []⟩], w1.heap.size, 1, w1.heap.size + 1, 1, [⟨A0, A1, A2, none, n0, n1, n2, 0, c0, c1, c2, 0⟩], rfl, rfl, rfl, rfl, by simp, SrI.start HY.out hB hb1, PgI.start y found, Lib.hid rfl⟩
  case round =>
    obtain ⟨n, ps, gs, cs, gp, cp, vs, rfl, rfl, rfl, rfl, hn, hS, hG, hgo⟩ := hrel
    have HS := Lib.hid hS
    have HG := Lib.hid hG
    have hbd := Nat.le_trans hG.bound HNN.out
    have hsz := hS.low.size
    have hgl := hS.plc.lt
    by_cases hlt : n < ps.length
    · have hvl : n < vs.length := by rw [hS.vl]; exact hlt
      obtain ⟨q0, q1, q2, q3⟩ := plc_at hS.plc n hvl
      have HX : Hid (ps[n]? = some ps[n]) := Lib.hid (List.getElem?_eq_getElem hlt)
      have HR := Lib.hid (hS.pls n _ _ (List.getElem?_eq_getElem hvl) (List.getElem?_eq_getElem hlt))
      have hps := Lib.hid (hG.un ps[n] (List.getElem_mem hlt))
      clear hS hG
      generalize vs[n] = v at *
      generalize ps[n] = p at *
      obtain ⟨B0, B1, B2, M, m0, m1, m2, mm, d0, d1, d2, dd⟩ := v
      dsimp only at q0 q1 q2 q3
      have HM1 : Hid (y.w.length = m1) := by
        have := (sw_at HR.out.here.yd.hw).1
        rw [show (y.at p.s).w.length = y.w.length from withL_len _ _] at this
        exact Lib.hid this
      have HF := Lib.hid (fun W (hW : Below wr.heap.size wr W) => HPR.out W (HS.out.low.trans (hW.mono hsz)) p.s hps.out B0 B1 B2 m0 m1 m2 d0 d1 d2 (HR.out.ex (Ex.of_below hW)).here.yd)
      clear hvl
      cases hf : found p.s with
      | true =>
        rw [hf] at HF
        go_wp2_with fail
        refine (HF.out _ bl_).mono ?_
        (rintro e w2 ⟨rfl, hb2⟩; have hs2 := hb2.size; (try simp at hs2))
        obtain ⟨hc2, hf2⟩ := ifs_of hb2; have hs2 := hb2.size; (try simp at hs2)
        have hS2 := HS.out.kept (bl_ : Below wr.heap.size wr w2)
        obtain ⟨c90, c91, c92, c93⟩ := zero4 HS.out.z9
        have f9 := HS.out.z9.frozen
        have l9 := HS.out.z9.lt
        have HS2 := Lib.hid hS2
        have HGO : Hid (searchL y found = (ps, some p)) := by
          show _ = _
          rw [← hgo.out, show 2 ^ y.w.length + 1 - n = (2 ^ y.w.length - n) + 1 by have := HG.out.bound; omega, pGo_found HX.out hf]
        have HLm : Hid ((ps.map Pl.s).length = ps.length) := Lib.hid (by simp)
        clear hS2 hgo
        go_wp2_with fail
        have HFin := Lib.hid (HS2.out.fin (.slice B0 m0 d0) (.slice B1 m1 d1) (.slice B2 m2 d2) (.slice M mm dd) (fun W => PlAt W y ⟨B0, B1, B2, M, m0, m1, m2, mm, d0, d1, d2, dd⟩ p) (fun W' h' => (HR.out.ex (Ex.of_below (bl_ : Below wr.heap.size wr w2))) W' h'))
        refine (Sort_any w.heap.size gs ps.length cs (ps.map Pl.s) _ (by have := HFin.out.seen; rw [HLm.out] at this; exact this) (by rw [HLm.out]; omega)).mono ?_
        rintro e w3 ⟨rfl, hO3, hb3, hk3⟩
        have HF3 := Lib.hid (HFin.out.sorted (by rw [HLm.out]; exact hO3) hb3 hk3)
        clear hO3 hb3 hk3
        have hl3 : Hid ((sortI (ps.map Pl.s)).length = ps.length) := by
          have := HF3.out.seen.len
          have h2 := HFin.out.seen.len
          show _ = _
          rw [(sortI_perm _).length_eq, HLm.out]
        have c9' := HF3.out.z9.cell
        have l9' := HF3.out.z9.lt
        go_wp2_with fail
        (refine wp_region_calm [w.heap.size + 1] [0, 1, 2] 3 (by kernel_rfl) rfl (by kernel_rfl) (by kernel_rfl) (by kernel_rfl) ?_; simp only [pickB, List.filterMap_cons, List.filterMap_nil, List.getElem?_toArray, List.getElem?_cons_zero, List.getElem?_cons_succ]; (repeat (first | ((first | (with_reducible refine quietL_plain rfl (fun K hK => ?_)) | (with_reducible refine quietL_want (by with_unfolding_all rfl) (fun K hK => ?_))); (apply Exists.intro; refine ⟨fun wx hx => ?_, ?_⟩; (· (have hcx := ifs_ex hx); simp [go_sem, *, ↓IntWalk.iteOmega] <;> (first | rfl | exact ⟨rfl, rfl⟩ | fail)); (simp only [Act.put, List.setIfInBounds_toArray, List.set_cons_zero, List.set_cons_succ]; refine hK _ ?_; clear hK K))) | ((with_reducible refine quietL_skip (by with_unfolding_all rfl) ?_); simp only [Act.put, List.setIfInBounds_toArray, List.set_cons_zero, List.set_cons_succ]))); refine quietL_nil ?_)
        (refine anyB_one (i := 3) (by kernel_rfl) rfl rfl ?_; intro w5 hb5 K hK; obtain ⟨hc5, hf5⟩ := ifs_of hb5; have hs5 := hb5.size; (try simp at hs5); go_wp2; refine ⟨xs_, ?_⟩)
        refine anyB_one (i := 4) (by kernel_rfl) rfl rfl ?_
        intro w6 hb6 K hK
        have HF6 := Lib.hid (HF3.out.kept (bl_ : Below w3.heap.size w3 w6))
        obtain ⟨e0, e1, e2, e3⟩ := zero4 HF6.out.z5
        have f6 := HF6.out.z5.frozen
        have l6 := HF6.out.z5.lt
        go_wp2
        refine ⟨xs_, ?_⟩
        obtain ⟨k1, k2, k3, k4⟩ := HF6.out.out
        have K1 := Lib.hid k1
        have K2 := Lib.hid k2
        have K3 := Lib.hid k3
        have K4 := Lib.hid k4
        clear k1 k2 k3 k4 e0 e1 e2 e3 f6 l6
        refine anyB_one (i := 5) (by kernel_rfl) rfl rfl ?_
        intro w7 hb7 K hK
        go_wp2
        refine ⟨xs_, ?_⟩
        refine anyB_end (by kernel_rfl) ?_
        intro w8 hb8
        have hb68 : Below (w6.heap.size) _ w8 := (show Below w6.heap.size _ w7 by simpa [World.setCell] using hb7).trans (by have := hb7.size; exact hb8.mono (by simpa [World.setCell] using this))
        simp only [Calm]
        have ck := (K1.out.below hb68 HF6.out.z5.lt).cell
        have hO8 := K2.out.kept (by simpa [World.setCell] using hb68)
        have hR8 := K3.out w8 (Ex.of_below (by simpa [World.setCell] using hb68))
        have hl8 := K4.out.trans (hb68.mono HF6.out.low.size)
        have HA8 := Lib.hid (And.intro hO8 (And.intro hR8 hl8))
        clear hO8 hR8 hl8 hb68 hb7 hb8
        go_wp2_with fail
        (try rw [Exit.noGoto_ret])
        refine bodyPost_ret (v := .tuple #[.slice (some ⟨gs, 0, none⟩) ps.length cs, .agg #[.slice B0 m0 d0, .slice B1 m1 d1, .slice B2 m2 d2, .slice M mm dd], .bool true]) (by simp [results, Tryz.results82, go_sem, ck]) rfl ?_
        rw [HGO.out]
        refine ⟨gs, cs, ⟨B0, B1, B2, M, m0, m1, m2, mm, d0, d1, d2, dd⟩, rfl, ?_, ?_, HA8.out.2.2⟩
        · have h := HA8.out.1.reads.more HA8.out.1.lt.2
          rw [hl3.out] at h
          exact h
        · intro p' hp'
          cases hp'
          exact HA8.out.2.1
      | false =>
        rw [hf] at HF
        have HGO : Hid (pGo y found (2 ^ y.w.length + 1 - (n + 1)) (n + 1) (pExp y p ps y.w.length) = searchL y found) := by
          show _ = _
          rw [← hgo.out, show 2 ^ y.w.length + 1 - n = (2 ^ y.w.length + 1 - (n + 1)) + 1 by have := HG.out.bound; omega, pGo_next HX.out hf]
        clear hgo
        go_wp2_with fail
        refine (HF.out _ bl_).mono ?_
        (rintro e w2 ⟨rfl, hb2⟩; have hs2 := hb2.size; (try simp at hs2))
        obtain ⟨hc2, hf2⟩ := ifs_of hb2; have hs2 := hb2.size; (try simp at hs2)
        have HS2 := Lib.hid (HS.out.kept (bl_ : Below wr.heap.size wr w2))
        have HR2 := Lib.hid (HR.out.ex (Ex.of_below (bl_ : Below wr.heap.size wr w2)))
        have HB12 := Lib.hid (show Blk w2 wr.heap.size 129 #[.slice B0 m0 d0, .slice B1 m1 d1, .slice B2 m2 d2, .slice M mm dd] from bk_)
        clear HF q0 q1 q2 q3 HS HR
        go_wp2_with fail
        go_loopw [7, 8, 41] (fun s7 s8 s41 wx => ∃ (k gs cs gp cp : Nat) (vs : List PlV), s7 = .slice (some ⟨gs, 0, none⟩) (pExp y p ps k).length cs ∧ s8 = .slice (some ⟨gp, 0, none⟩) (pExp y p ps k).length cp ∧ s41 = .int .i64 k ∧ k ≤ m1 ∧ SrI w y (w1.heap.size + 1 + 1) A0 A1 A2 n0 n1 n2 c0 c1 c2 (pExp y p ps k) (pExp y p ps k) gs cs gp cp vs wx ∧ Blk wx wr.heap.size 129 #[.slice B0 m0 d0, .slice B1 m1 d1, .slice B2 m2 d2, .slice M mm dd] ∧ gp ≠ wr.heap.size ∧ PlR [gs, gp, w.heap.size + 1, w1.heap.size + 1 + 1] wx y ⟨B0, B1, B2, M, m0, m1, m2, mm, d0, d1, d2, dd⟩ p) (fun _ _ s41 _ => m1 - (intOf s41).toNat)
        case atStart => exact ⟨0, gs, cs, gp, cp, vs, rfl, rfl, rfl, Nat.zero_le _, HS2.out, HB12.out, by omega, HR2.out⟩
        case round =>
          clear HS2 HR2 HB12 hgl hc2 hf2 hn hb2 hs2
          obtain ⟨k, gs, cs, gp, cp, vs, rfl, rfl, rfl, hk, hS, b12, hn12, hR⟩ := hrel
          have HG2 := Lib.hid (HG.out.exp HX.out k (by rw [HM1.out]; exact hk))
          have hbd2 := Nat.le_trans HG2.out.1.bound HNN.out
          have hmm : p.m.length ≤ 256 := by have := HG2.out.1.ln n p HG2.out.2; omega
          have hsx := hS.low.size
          have hgl := hS.plc.lt
          have hgs := hS.seen.lt
          have l9x := hS.z9.lt
          have l5x := hS.z5.lt
          have c12 := b12.cell
          have l12 := b12.lt
          have HS := Lib.hid hS
          have HB12 := Lib.hid b12
          have HR := Lib.hid hR
          clear hS b12 hR
          by_cases hlt2 : k < m1
          · have hkw : k < y.w.length := by rw [HM1.out]; exact hlt2
            have hkz : k < (y.at p.s).w.length := by rw [show (y.at p.s).w.length = y.w.length from withL_len _ _]; exact hkw
            have hYd := fun W (hW : Below wr.heap.size wr W) => (HR.out.ex (Ex.of_below hW)).here.yd
            have hPz := HPp.out.at p.s
            have e0 : (y.at p.s).s.length = m0 := (sec_at (hYd wr (Below.refl _ _)).hs).1
            have e1 : (y.at p.s).w.length = m1 := (sw_at (hYd wr (Below.refl _ _)).hw).1
            have e2 : (y.at p.s).p.length = m2 := (pm_at (hYd wr (Below.refl _ _)).hp).1
            have e0' : m0 ≤ 8 := e0 ▸ hPz.n8
            have e1' : m1 ≤ 8 := e1 ▸ hPz.w8
            have e2' : m2 ≤ 8 := e2 ▸ hPz.p8
            have HMv := Lib.hid (fun W (hW : Below wr.heap.size wr W) => moved_any W.heap.size B0 B1 B2 m0 m1 m2 d0 d1 d2 (y.at p.s) k W (hYd W hW) (Nat.le_refl _) (by omega) (by omega) (by omega) hkz)
            have HWy := Lib.hid (fun W (hW : Below wr.heap.size wr W) => why_any W.heap.size B0 B1 B2 m0 m1 m2 d0 d1 d2 (y.at p.s) W (hYd W hW) (Nat.le_refl _) hPz k hkz)
            have HNx := Lib.hid (nmL_nil (whyN_le (y.at p.s) k))
            have HT : Hid (pExp y p ps (k + 1) = if !hasI ((pExp y p ps k).map Pl.s) (nextS y p.s k) && freeS y p.s k then pExp y p ps k ++ [⟨nextS y p.s k, p.m ++ [(k : Int)]⟩] else pExp y p ps k) := by
              show _ = _
              rw [pExp_succ]; rfl
            have HNS : Hid (∀ z : Yd, z = (y.at p.s).mv k → stUp z.w z.w.length = nextS y p.s k) := by
              rintro z rfl
              show stUp (moved (withL y.w p.s) k) (moved (withL y.w p.s) k).length = _
              rw [moved_len, withL_len]; rfl
            have HML : Hid (((y.at p.s).mv k).w.length ≤ 9) := by show (moved (withL y.w p.s) k).length ≤ 9; rw [moved_len, withL_len]; omega
            have HAT : Hid (y.at (nextS y p.s k) = (y.at p.s).mv k) := by
              show ({ y with w := withL y.w (nextS y p.s k) } : Yd) = { y with w := moved (withL y.w p.s) k }
              rw [show nextS y p.s k = stUp (moved (withL y.w p.s) k) y.w.length from rfl, moved_with]
            clear e0 e1 e2
            generalize pExp y p ps k = qs at *
            have hqs : (qs.map Pl.s).length = qs.length := by simp
            have HCt := Lib.hid (fun W (hW : Below wr.heap.size wr W) => ContainsI_any (gs + 1) (some ⟨gs, 0, none⟩) qs.length cs (qs.map Pl.s) (nextS y p.s k) W (HS.out.seen.reads.below (hW.mono (by omega))) (by unfold maxLen; omega))
            clear hqs
            unfold freeS at HT
            generalize (y.at p.s).mv k = z at *
            generalize nextS y p.s k = ns at *
            have HNz := Lib.hid (HNS.out z rfl)
            clear HNS
            cases hh : hasI (qs.map Pl.s) ns with
            | true =>
              rw [hh] at HCt
              have HE : Hid (pExp y p ps (k + 1) = qs) := by show _ = _; rw [HT.out, hh]; rfl
              clear HT
              go_wp2_with fail
              refine (HMv.out _ bl_).mono ?_
              rintro e w3 ⟨D0, D2, f0, f2, g3, rfl, hO3, hb3⟩
              have hs3 := hb3.size
              have HZ3 := Lib.hid (yd_own hO3)
              clear hO3
              obtain ⟨hc3, hf3⟩ := ifs_of hb3; have hs3 := hb3.size; (try simp at hs3)
              have HPS := Lib.hid (fun W (hW : Below w3.heap.size w3 W) => pstate_any w3.heap.size D0 _ D2 _ _ _ f0 z.w.length f2 z W (HZ3.out.below hW) hW.size HML.out)
              rw [HNz.out] at HPS
              go_wp2_with fail
              refine (HPS.out _ bl_).mono ?_
              (rintro e w4 ⟨rfl, hb4⟩; have hs4 := hb4.size; (try simp at hs4))
              obtain ⟨hc4, hf4⟩ := ifs_of hb4; have hs4 := hb4.size; (try simp at hs4)
              go_wp2_with fail
              refine (HCt.out _ bl_).mono ?_
              rintro e w5 ⟨rfl, rfl⟩
              go_wp2_with fail
              go_roundw
              case rel => exact ⟨k + 1, gs, cs, gp, cp, vs, by rw [HE.out], by rw [HE.out], by go_num, by omega, by rw [HE.out]; exact HS.out.kept bl_, HB12.out.kept bl_, hn12, HR.out.ex (Ex.of_below bl_)⟩
              case measure => simp [intOf]; omega
            | false =>
              rw [hh] at HCt
              cases hfr : (whyN (y.at p.s) k == 0) with
              | false =>
                rw [hfr] at HNx
                have hnn := HNx.out
                have HE : Hid (pExp y p ps (k + 1) = qs) := by show _ = _; rw [HT.out, hh, hfr]; rfl
                clear HT
                generalize nmL (whyN (y.at p.s) k) = v at *
                go_wp2_with fail
                refine (HMv.out _ bl_).mono ?_
                rintro e w3 ⟨D0, D2, f0, f2, g3, rfl, hO3, hb3⟩
                have hs3 := hb3.size
                have HZ3 := Lib.hid (yd_own hO3)
                clear hO3
                obtain ⟨hc3, hf3⟩ := ifs_of hb3; have hs3 := hb3.size; (try simp at hs3)
                have HPS := Lib.hid (fun W (hW : Below w3.heap.size w3 W) => pstate_any w3.heap.size D0 _ D2 _ _ _ f0 z.w.length f2 z W (HZ3.out.below hW) hW.size HML.out)
                rw [HNz.out] at HPS
                go_wp2_with fail
                refine (HPS.out _ bl_).mono ?_
                (rintro e w4 ⟨rfl, hb4⟩; have hs4 := hb4.size; (try simp at hs4))
                obtain ⟨hc4, hf4⟩ := ifs_of hb4; have hs4 := hb4.size; (try simp at hs4)
                go_wp2_with fail
                refine (HCt.out _ bl_).mono ?_
                rintro e w5 ⟨rfl, rfl⟩
                go_wp2_with fail
                refine (HWy.out _ bl_).mono ?_
                (rintro e w6 ⟨rfl, hb6⟩; have hs6 := hb6.size; (try simp at hs6))
                obtain ⟨hc6, hf6⟩ := ifs_of hb6; have hs6 := hb6.size; (try simp at hs6)
                go_wp2_with fail
                go_roundw
                case rel => exact ⟨k + 1, gs, cs, gp, cp, vs, by rw [HE.out], by rw [HE.out], by go_num, by omega, by rw [HE.out]; exact HS.out.kept bl_, HB12.out.kept bl_, hn12, HR.out.ex (Ex.of_below bl_)⟩
                case measure => simp [intOf]; omega
              | true =>
                rw [hfr] at HNx
                have hnn := HNx.out
                have HE : Hid (pExp y p ps (k + 1) = qs ++ [⟨ns, p.m ++ [(k : Int)]⟩]) := by show _ = _; rw [HT.out, hh, hfr]; rfl
                clear HT
                generalize nmL (whyN (y.at p.s) k) = v at *
                go_wp2_with fail
                refine (HMv.out _ bl_).mono ?_
                rintro e w3 ⟨D0, D2, f0, f2, g3, rfl, hO3, hb3⟩
                have hs3 := hb3.size
                have HZ3 := Lib.hid (yd_own hO3)
                have HO3 := Lib.hid hO3
                clear hO3
                obtain ⟨hc3, hf3⟩ := ifs_of hb3; have hs3 := hb3.size; (try simp at hs3)
                have HPS := Lib.hid (fun W (hW : Below w3.heap.size w3 W) => pstate_any w3.heap.size D0 _ D2 _ _ _ f0 z.w.length f2 z W (HZ3.out.below hW) hW.size HML.out)
                rw [HNz.out] at HPS
                go_wp2_with fail
                refine (HPS.out _ bl_).mono ?_
                (rintro e w4 ⟨rfl, hb4⟩; have hs4 := hb4.size; (try simp at hs4))
                obtain ⟨hc4, hf4⟩ := ifs_of hb4; have hs4 := hb4.size; (try simp at hs4)
                go_wp2_with fail
                refine (HCt.out _ bl_).mono ?_
                rintro e w5 ⟨rfl, rfl⟩
                go_wp2_with fail
                refine (HWy.out _ bl_).mono ?_
                (rintro e w6 ⟨rfl, hb6⟩; have hs6 := hb6.size; (try simp at hs6))
                obtain ⟨hc6, hf6⟩ := ifs_of hb6; have hs6 := hb6.size; (try simp at hs6)
                have HS6 := Lib.hid (HS.out.kept (bl_ : Below wr.heap.size wr w6))
                have HB6 := Lib.hid (HB12.out.kept (bl_ : Below wr.heap.size wr w6))
                have HR6 := Lib.hid (HR.out.ex (Ex.of_below (bl_ : Below wr.heap.size wr w6)))
                have HO6 := Lib.hid (HO3.out.kept (bl_ : Below w3.heap.size w3 w6))
                have HB14 := Lib.hid (show Blk w6 w3.heap.size 41 #[.slice D0 z.s.length f0, .slice (some ⟨g3, 0, none⟩) z.w.length z.w.length, .slice D2 z.p.length f2] from bk_)
                have hng6 : gs < w6.heap.size := by omega
                clear HS HB12 HR HO3
                go_wp2_with (at_builtin; refine wpList_appB 29 3 1 8 elemInt rfl (.tmp 61) (.tmp 63) rfl w.heap.size _ qs.length _ rfl (HS6.out.seen.alloc _) w6.heap.size 1 #[.int .i64 ns] rfl (Blk.new _ _ _) rfl ?h1 (by decide) ?h3 ?h4 ?h5 ?_)
                case h1 => rfl
                case h3 => unfold maxLen; omega
                case h4 => omega
                case h5 => simp; omega
                intro gs' cs' w7 hown7 hg7 hat7
                have hg6 : w6.grownBy w7 (some gs) := World.grownBy_trans_alloc hg7
                have hat8 : gs' = gs ∨ w6.heap.size ≤ gs' := by
                  rcases hat7 with h | h
                  · left
                    first | exact (by simpa [Value.ownBlock] using h) | (symm; simpa [Value.ownBlock] using h)
                  · right
                    rw [h]
                    simp
                have HS7 := Lib.hid (HS6.out.addSeen (q := ⟨ns, p.m ++ [(k : Int)]⟩) hg6 hat8 (by rw [List.map_map]; exact hown7))
                have HB7 := Lib.hid (HB6.out.grown hg6 (fun e => row_blk HS6.out.seen HB6.out (by decide) (by injection e)))
                have HB147 := Lib.hid (HB14.out.grown hg6 (fun e => row_blk HS6.out.seen HB14.out (by decide) (by injection e)))
                have HY7 := Lib.hid ((YdR.of_own (X := [gs, gp, w.heap.size + 1, w1.heap.size + 1 + 1]) HO6.out (fun x hx => by simp only [List.mem_cons, List.not_mem_nil, or_false] at hx; omega)).turn (Ex.of_grown hg6 (fun r e => by cases e; simp)) (Y := [gs', gp, w.heap.size + 1, w1.heap.size + 1 + 1]) (fun x hx => by
                  simp only [List.mem_cons, List.not_mem_nil, or_false] at hx ⊢
                  omega))
                have HR7 := Lib.hid (HR6.out.turn (Ex.of_grown hg6 (X := [gs, gp, w.heap.size + 1, w1.heap.size + 1 + 1]) (fun r e => by cases e; simp)) (Y := [gs', gp, w.heap.size + 1, w1.heap.size + 1 + 1]) (fun x hx => by
                  simp only [List.mem_cons, List.not_mem_nil, or_false] at hx ⊢
                  omega))
                have hs7 := hg6.size
                have hlt7 := hown7.lt
                have b12 := HB7.out.cell
                have l12' := HB7.out.lt
                have b14 := HB147.out.cell
                have l14 := HB147.out.lt
                have hmv : mm = p.m.length := by have := HR7.out.here.mv.1; simpa using this.symm
                have HCl := Lib.hid (fun W (hW : Below w7.heap.size w7 W) => CloneI_any w7.heap.size M mm dd (p.m.map (.int .i64)) W (HR7.out.here.mv.below hW) hW.size (one_int _) (by omega))
                have hm256 : mm ≤ 256 := by omega
                have ngp : w3.heap.size ≠ gp := by omega
                have hn12s := fun e => hn12 (Eq.symm e)
                clear hown7 hg7 hg6 HB6 HB14 HO6 HR6 hmv
                go_wp2_with fail
                (refine wp_region_calm [gp] [0, 1, 2, 3, 5] 7 (by kernel_rfl) rfl (by kernel_rfl) (by kernel_rfl) (by kernel_rfl) ?_; simp only [pickB, List.filterMap_cons, List.filterMap_nil, List.getElem?_toArray, List.getElem?_cons_zero, List.getElem?_cons_succ]; (repeat (first | ((first | (with_reducible refine quietL_plain rfl (fun K hK => ?_)) | (with_reducible refine quietL_want (by with_unfolding_all rfl) (fun K hK => ?_))); (apply Exists.intro; refine ⟨fun wx hx => ?_, ?_⟩; (· (have hcx := ifs_ex hx); simp [go_sem, *, ↓IntWalk.iteOmega] <;> (first | rfl | exact ⟨rfl, rfl⟩ | fail)); (simp only [Act.put, List.setIfInBounds_toArray, List.set_cons_zero, List.set_cons_succ]; refine hK _ ?_; clear hK K))) | ((with_reducible refine quietL_skip (by with_unfolding_all rfl) ?_); simp only [Act.put, List.setIfInBounds_toArray, List.set_cons_zero, List.set_cons_succ]))); refine quietL_nil ?_)
                refine anyB_two (i := 4) (j := 6) (by kernel_rfl) rfl rfl rfl rfl ?_ ?_
                · intro wa hba K hK
                  have hsa := hba.size
                  go_wp2_with fail
                  refine (HCl.out _ bl_).mono ?_
                  rintro e wb ⟨vm, rfl, hvm, hbb⟩
                  have hsb := hbb.size
                  have HVM := Lib.hid hvm
                  obtain ⟨AM, cm, rfl, _⟩ := own_form hvm
                  clear hvm
                  (go_wp2; refine ⟨xs_, ?_⟩)
                  refine anyB_one (i := 6) (by kernel_rfl) rfl rfl ?_
                  intro wc hbc K hK
                  have hsc := hbc.size
                  go_wp2
                  refine ⟨xs_, ?_⟩
                  have PV := Lib.hid (World.ownsRow.alloc (own_kept HVM.out hbc) (.cells #[Value.int .i64 (k : Int)] 3))
                  have PB := Lib.hid (Blk.new wc 3 #[Value.int .i64 (k : Int)])
                  have PW := Lib.hid (bl_ : Below w7.heap.size w7 (wc.alloc (.cells #[Value.int .i64 (k : Int)] 3)))
                  have PA := Lib.hid (show w7.heap.size ≤ wa.heap.size by omega)
                  have PS := Lib.hid (show wa.heap.size ≤ (wc.alloc (.cells #[Value.int .i64 (k : Int)] 3)).heap.size by simp; omega)
                  clear hba hbb hbc
                  refine anyB_one (i := 7) (by kernel_rfl) rfl rfl ?_
                  intro wd hbd K hK
                  have hsd := hbd.size
                  refine wp_appB 29 3 1 8 elemInt (.tmp 69) (.tmp 71) rfl wa.heap.size (.slice AM mm cm) mm _ rfl (own_kept PV.out hbd) wc.heap.size 1 #[.int .i64 (k : Int)] rfl (PB.out.kept hbd) rfl ?_ (by decide) ?_ ?_ ?_ ?_
                  · intro u hu; simp at hu; subst hu; rfl
                  · unfold maxLen; omega
                  · omega
                  · have := PS.out; omega
                  intro gm cm' we hOm hgm hatm
                  have hWd : Below w7.heap.size w7 wd := PW.out.trans (hbd.mono PW.out.size)
                  have hWe : Below w7.heap.size w7 we := hWd.grown hgm hWd.size (fun r e => by have := ((own_kept PV.out hbd).lt r e).1; have := PA.out; omega)
                  have hse := hWe.size
                  refine hK _ _ ⟨Ex.of_below hWe, ?_⟩
                  clear hK K hatm hgm
                  have HOm := Lib.hid hOm
                  have HWe := Lib.hid hWe
                  have hXe : Ex [gp] w7 we := Ex.of_below hWe
                  have hltm := hOm.lt
                  clear hOm hWd hWe hbd
                  (refine anyB_one (i := 8) (by kernel_rfl) rfl rfl ?_; intro wf hbf K hK; obtain ⟨hcf, hff⟩ := ifs_of hbf; have hsf := hbf.size; (try simp at hsf); go_wp2; refine ⟨xs_, ?_⟩)
                  refine anyB_one (i := 9) (by kernel_rfl) rfl rfl ?_
                  intro wh hbh K hK
                  have hsh := hbh.size
                  go_wp2
                  have HWh := Lib.hid (HWe.out.trans ((hbf.trans (hbh.mono hbf.size)).mono HWe.out.size))
                  have HOh := Lib.hid ((HOm.out.kept hbf).kept hbh)
                  clear hbf hbh hcf hff
                  refine ⟨Ex.of_below (HWh.out.alloc HWh.out.size _), ?_⟩
                  refine anyB_one (i := 10) (by kernel_rfl) rfl rfl ?_
                  intro wi hbi K hK
                  have hWi : Below w7.heap.size w7 wi := (HWh.out.alloc HWh.out.size _).trans (hbi.mono (by have := HWh.out.size; simp; omega))
                  have hSi := HS7.out.kept hWi
                  have hsi := hWi.size
                  refine wp_appB 182 129 4 96 elemPl (.tmp 65) (.tmp 74) rfl w.heap.size (.slice (some ⟨gp, 0, none⟩) qs.length cp) qs.length (plvs vs) rfl hSi.plc wh.heap.size 1 #[.slice D0 z.s.length f0, .slice (some ⟨g3, 0, none⟩) z.w.length z.w.length, .slice D2 z.p.length f2, .slice (some ⟨gm, 0, none⟩) (mm + 1) cm'] rfl ((Blk.new _ _ _).kept hbi) rfl ?_ (by decide) ?_ ?_ ?_ ?_
                  · intro u hu; simp at hu; rcases hu with rfl | rfl | rfl | rfl <;> rfl
                  · unfold maxLen; omega
                  · omega
                  · have := hSi.low.size; omega
                  intro gp' cp' wj hOp hgp hatp
                  have hgp' : wi.grownBy wj (some gp) := hgp
                  have hat' : gp' = gp ∨ gp' = wi.heap.size := by
                    rcases hatp with h | h
                    · left
                      first | exact (by simpa [Value.ownBlock] using h) | (symm; simpa [Value.ownBlock] using h)
                    · exact .inr h
                  have hXj : Ex [gp] w7 wj := (Ex.of_below hWi).trans (Ex.of_grown hgp' (fun r e => by cases e; simp))
                  refine hK _ _ ⟨hXj, ?_⟩
                  clear hK K hatp
                  have hRm := Own.kept ((HOh.out.alloc (.cells #[.slice D0 z.s.length f0, .slice (some ⟨g3, 0, none⟩) z.w.length z.w.length, .slice D2 z.p.length f2, .slice (some ⟨gm, 0, none⟩) (mm + 1) cm'] 129))) hbi
                  have hNew : PlR [gs', gp, w.heap.size + 1, w1.heap.size + 1 + 1] wi y ⟨D0, some ⟨g3, 0, none⟩, D2, some ⟨gm, 0, none⟩, z.s.length, z.w.length, z.p.length, mm + 1, f0, z.w.length, f2, cm'⟩ ⟨ns, p.m ++ [(k : Int)]⟩ := PlR.mk (base := wa.heap.size) (g := gm) (by show YdR _ _ (y.at ns) _ _ _ _ _ _; rw [HAT.out]; exact HY7.out.ex (Ex.of_below hWi)) (by show Own _ _ _ _ _ _ _ ((p.m ++ [(k : Int)]).map (.int .i64)); rw [List.map_append]; exact hRm) rfl (fun x hx => by have := PA.out; simp only [List.mem_cons, List.not_mem_nil, or_false] at hx; omega)
                  have hSj := hSi.addPl hgp' hat' hOp hNew
                  have hBj := (HB7.out.kept hWi).grown hgp' (fun e => hn12 (by injection e with e; exact e.symm))
                  have hRj := (HR7.out.ex (Ex.of_below hWi)).turn (Ex.of_grown hgp' (X := [gs', gp, w.heap.size + 1, w1.heap.size + 1 + 1]) (fun r e => by cases e; simp)) (Y := [gs', gp', w.heap.size + 1, w1.heap.size + 1 + 1]) (fun x hx => by
                    simp only [List.mem_cons, List.not_mem_nil, or_false] at hx ⊢
                    omega)
                  have HSj := Lib.hid hSj
                  have HBj := Lib.hid hBj
                  have HRj := Lib.hid hRj
                  have hn12' : gp' ≠ _ := fun e : gp' = _ => (show False by rcases hat' with h | h; exact hn12 (h ▸ e); exact absurd (h.symm.trans e) (by omega))
                  clear hSj hBj hRj hNew hRm hOp hgp hgp' hSi hWi hbi
                  (refine anyB_one (i := 11) (by kernel_rfl) rfl rfl ?_; intro wl hbl K hK; obtain ⟨hcl, hfl⟩ := ifs_of hbl; have hsl := hbl.size; (try simp at hsl); go_wp2; refine ⟨xs_, ?_⟩)
                  (refine anyB_end (by kernel_rfl) ?_; intro wm hbm; obtain ⟨hcm, hfm⟩ := ifs_of hbm; have hsm := hbm.size; (try simp at hsm); simp only [Calm]; go_wp2_with fail)
                  go_roundw
                  case rel => exact ⟨k + 1, gs', cs', gp', cp', vs ++ [_], by rw [HE.out, List.length_append]; rfl, by rw [HE.out, List.length_append]; rfl, by go_num, by omega, by rw [HE.out]; exact (HSj.out.kept (bl_ : Below wj.heap.size wj wm)), HBj.out.kept (bl_ : Below wj.heap.size wj wm), hn12', HRj.out.ex (Ex.of_below (bl_ : Below wj.heap.size wj wm))⟩
                  case measure => simp [intOf]; omega
                · intro wa hba K hK
                  have hsa := hba.size
                  go_wp2
                  refine ⟨xs_, ?_⟩
                  refine anyB_one (i := 4) (by kernel_rfl) rfl rfl ?_
                  intro wb hbb K hK
                  have hsb := hbb.size
                  simp at hsb
                  go_wp2_with fail
                  refine (HCl.out _ bl_).mono ?_
                  rintro e wc ⟨vm, rfl, hvm, hbc⟩
                  have hsc := hbc.size
                  have HVM := Lib.hid hvm
                  obtain ⟨AM, cm, rfl, _⟩ := own_form hvm
                  clear hvm
                  (go_wp2; refine ⟨xs_, ?_⟩)
                  have PV := HVM
                  have PB := Lib.hid (((Blk.new wa 3 #[Value.int .i64 (k : Int)]).kept hbb).kept hbc)
                  have PW := Lib.hid (bl_ : Below w7.heap.size w7 wc)
                  have PA := Lib.hid (show w7.heap.size ≤ wb.heap.size by omega)
                  have PS := Lib.hid (show wb.heap.size ≤ wc.heap.size by omega)
                  clear hba hbb hbc
                  refine anyB_one (i := 7) (by kernel_rfl) rfl rfl ?_
                  intro wd hbd K hK
                  have hsd := hbd.size
                  refine wp_appB 29 3 1 8 elemInt (.tmp 69) (.tmp 71) rfl wb.heap.size (.slice AM mm cm) mm _ rfl (own_kept PV.out hbd) wa.heap.size 1 #[.int .i64 (k : Int)] rfl (PB.out.kept hbd) rfl ?_ (by decide) ?_ ?_ ?_ ?_
                  · intro u hu; simp at hu; subst hu; rfl
                  · unfold maxLen; omega
                  · omega
                  · have := PS.out; omega
                  intro gm cm' we hOm hgm hatm
                  have hWd : Below w7.heap.size w7 wd := PW.out.trans (hbd.mono PW.out.size)
                  have hWe : Below w7.heap.size w7 we := hWd.grown hgm hWd.size (fun r e => by have := ((own_kept PV.out hbd).lt r e).1; have := PA.out; omega)
                  have hse := hWe.size
                  refine hK _ _ ⟨Ex.of_below hWe, ?_⟩
                  clear hK K hatm hgm
                  have HOm := Lib.hid hOm
                  have HWe := Lib.hid hWe
                  have hXe : Ex [gp] w7 we := Ex.of_below hWe
                  have hltm := hOm.lt
                  clear hOm hWd hWe hbd
                  (refine anyB_one (i := 8) (by kernel_rfl) rfl rfl ?_; intro wf hbf K hK; obtain ⟨hcf, hff⟩ := ifs_of hbf; have hsf := hbf.size; (try simp at hsf); go_wp2; refine ⟨xs_, ?_⟩)
                  refine anyB_one (i := 9) (by kernel_rfl) rfl rfl ?_
                  intro wh hbh K hK
                  have hsh := hbh.size
                  go_wp2
                  have HWh := Lib.hid (HWe.out.trans ((hbf.trans (hbh.mono hbf.size)).mono HWe.out.size))
                  have HOh := Lib.hid ((HOm.out.kept hbf).kept hbh)
                  clear hbf hbh hcf hff
                  refine ⟨Ex.of_below (HWh.out.alloc HWh.out.size _), ?_⟩
                  refine anyB_one (i := 10) (by kernel_rfl) rfl rfl ?_
                  intro wi hbi K hK
                  have hWi : Below w7.heap.size w7 wi := (HWh.out.alloc HWh.out.size _).trans (hbi.mono (by have := HWh.out.size; simp; omega))
                  have hSi := HS7.out.kept hWi
                  have hsi := hWi.size
                  refine wp_appB 182 129 4 96 elemPl (.tmp 65) (.tmp 74) rfl w.heap.size (.slice (some ⟨gp, 0, none⟩) qs.length cp) qs.length (plvs vs) rfl hSi.plc wh.heap.size 1 #[.slice D0 z.s.length f0, .slice (some ⟨g3, 0, none⟩) z.w.length z.w.length, .slice D2 z.p.length f2, .slice (some ⟨gm, 0, none⟩) (mm + 1) cm'] rfl ((Blk.new _ _ _).kept hbi) rfl ?_ (by decide) ?_ ?_ ?_ ?_
                  · intro u hu; simp at hu; rcases hu with rfl | rfl | rfl | rfl <;> rfl
                  · unfold maxLen; omega
                  · omega
                  · have := hSi.low.size; omega
                  intro gp' cp' wj hOp hgp hatp
                  have hgp' : wi.grownBy wj (some gp) := hgp
                  have hat' : gp' = gp ∨ gp' = wi.heap.size := by
                    rcases hatp with h | h
                    · left
                      first | exact (by simpa [Value.ownBlock] using h) | (symm; simpa [Value.ownBlock] using h)
                    · exact .inr h
                  have hXj : Ex [gp] w7 wj := (Ex.of_below hWi).trans (Ex.of_grown hgp' (fun r e => by cases e; simp))
                  refine hK _ _ ⟨hXj, ?_⟩
                  clear hK K hatp
                  have hRm := Own.kept ((HOh.out.alloc (.cells #[.slice D0 z.s.length f0, .slice (some ⟨g3, 0, none⟩) z.w.length z.w.length, .slice D2 z.p.length f2, .slice (some ⟨gm, 0, none⟩) (mm + 1) cm'] 129))) hbi
                  have hNew : PlR [gs', gp, w.heap.size + 1, w1.heap.size + 1 + 1] wi y ⟨D0, some ⟨g3, 0, none⟩, D2, some ⟨gm, 0, none⟩, z.s.length, z.w.length, z.p.length, mm + 1, f0, z.w.length, f2, cm'⟩ ⟨ns, p.m ++ [(k : Int)]⟩ := PlR.mk (base := wb.heap.size) (g := gm) (by show YdR _ _ (y.at ns) _ _ _ _ _ _; rw [HAT.out]; exact HY7.out.ex (Ex.of_below hWi)) (by show Own _ _ _ _ _ _ _ ((p.m ++ [(k : Int)]).map (.int .i64)); rw [List.map_append]; exact hRm) rfl (fun x hx => by have := PA.out; simp only [List.mem_cons, List.not_mem_nil, or_false] at hx; omega)
                  have hSj := hSi.addPl hgp' hat' hOp hNew
                  have hBj := (HB7.out.kept hWi).grown hgp' (fun e => hn12 (by injection e with e; exact e.symm))
                  have hRj := (HR7.out.ex (Ex.of_below hWi)).turn (Ex.of_grown hgp' (X := [gs', gp, w.heap.size + 1, w1.heap.size + 1 + 1]) (fun r e => by cases e; simp)) (Y := [gs', gp', w.heap.size + 1, w1.heap.size + 1 + 1]) (fun x hx => by
                    simp only [List.mem_cons, List.not_mem_nil, or_false] at hx ⊢
                    omega)
                  have HSj := Lib.hid hSj
                  have HBj := Lib.hid hBj
                  have HRj := Lib.hid hRj
                  have hn12' : gp' ≠ _ := fun e : gp' = _ => (show False by rcases hat' with h | h; exact hn12 (h ▸ e); exact absurd (h.symm.trans e) (by omega))
                  clear hSj hBj hRj hNew hRm hOp hgp hgp' hSi hWi hbi
                  (refine anyB_one (i := 11) (by kernel_rfl) rfl rfl ?_; intro wl hbl K hK; obtain ⟨hcl, hfl⟩ := ifs_of hbl; have hsl := hbl.size; (try simp at hsl); go_wp2; refine ⟨xs_, ?_⟩)
                  (refine anyB_end (by kernel_rfl) ?_; intro wm hbm; obtain ⟨hcm, hfm⟩ := ifs_of hbm; have hsm := hbm.size; (try simp at hsm); simp only [Calm]; go_wp2_with fail)
                  go_roundw
                  case rel => exact ⟨k + 1, gs', cs', gp', cp', vs ++ [_], by rw [HE.out, List.length_append]; rfl, by rw [HE.out, List.length_append]; rfl, by go_num, by omega, by rw [HE.out]; exact (HSj.out.kept (bl_ : Below wj.heap.size wj wm)), HBj.out.kept (bl_ : Below wj.heap.size wj wm), hn12', HRj.out.ex (Ex.of_below (bl_ : Below wj.heap.size wj wm))⟩
                  case measure => simp [intOf]; omega
          · obtain rfl : k = m1 := by omega
            have hpb := HG2.out.2
            have HGn : Hid (PgI y found (n + 1) 0 (pExp y p ps y.w.length)) := Lib.hid (HG.out.next HX.out hf)
            have hle := HG2.out.1.bound
            have hn1 := (List.getElem?_eq_some_iff.1 hpb).1
            rw [← HM1.out] at HS HG2 hn1 hbd2
            clear hlt2 hk hmm c12
            go_wp2_with fail
            go_roundw
            case rel => exact ⟨n + 1, pExp y p ps y.w.length, gs, cs, gp, cp, vs, by rw [HM1.out], by rw [HM1.out], rfl, by go_num, hn1, HS.out, HGn.out, HGO⟩
            case measure => have := HG.out.bound; simp [intOf]; omega
    · obtain rfl : n = ps.length := by omega
      have HGO : Hid (searchL y found = (ps, none)) := by
        show _ = _
        rw [← hgo.out, show 2 ^ y.w.length + 1 - ps.length = (2 ^ y.w.length - ps.length) + 1 by have := HG.out.bound; omega, pGo_none' (List.getElem?_eq_none (Nat.le_refl _))]
      have HLm : Hid ((ps.map Pl.s).length = ps.length) := Lib.hid (by simp)
      have HFin := Lib.hid HS.out.none
      clear hgo hS hG HG HS
      go_wp2_with fail
      refine (Sort_any w.heap.size gs ps.length cs (ps.map Pl.s) _ (by have := HFin.out.seen; rw [HLm.out] at this; exact this) (by rw [HLm.out]; omega)).mono ?_
      rintro e w3 ⟨rfl, hO3, hb3, hk3⟩
      have HF3 := Lib.hid (HFin.out.sorted (by rw [HLm.out]; exact hO3) hb3 hk3)
      clear hO3 hb3 hk3
      have hl3 : Hid ((sortI (ps.map Pl.s)).length = ps.length) := by
        show _ = _
        rw [(sortI_perm _).length_eq, HLm.out]
      have c9' := HF3.out.z9.cell
      have l9' := HF3.out.z9.lt
      go_wp2_with fail
      (refine wp_region_calm [w.heap.size + 1] [0, 1, 2] 3 (by kernel_rfl) rfl (by kernel_rfl) (by kernel_rfl) (by kernel_rfl) ?_; simp only [pickB, List.filterMap_cons, List.filterMap_nil, List.getElem?_toArray, List.getElem?_cons_zero, List.getElem?_cons_succ]; (repeat (first | ((first | (with_reducible refine quietL_plain rfl (fun K hK => ?_)) | (with_reducible refine quietL_want (by with_unfolding_all rfl) (fun K hK => ?_))); (apply Exists.intro; refine ⟨fun wx hx => ?_, ?_⟩; (· (have hcx := ifs_ex hx); simp [go_sem, *, ↓IntWalk.iteOmega] <;> (first | rfl | exact ⟨rfl, rfl⟩ | fail)); (simp only [Act.put, List.setIfInBounds_toArray, List.set_cons_zero, List.set_cons_succ]; refine hK _ ?_; clear hK K))) | ((with_reducible refine quietL_skip (by with_unfolding_all rfl) ?_); simp only [Act.put, List.setIfInBounds_toArray, List.set_cons_zero, List.set_cons_succ]))); refine quietL_nil ?_)
      (refine anyB_one (i := 3) (by kernel_rfl) rfl rfl ?_; intro w5 hb5 K hK; obtain ⟨hc5, hf5⟩ := ifs_of hb5; have hs5 := hb5.size; (try simp at hs5); go_wp2; refine ⟨xs_, ?_⟩)
      refine anyB_one (i := 4) (by kernel_rfl) rfl rfl ?_
      intro w6 hb6 K hK
      have HF6 := Lib.hid (HF3.out.kept (bl_ : Below w3.heap.size w3 w6))
      obtain ⟨e0, e1, e2, e3⟩ := zero4 HF6.out.z5
      have f6 := HF6.out.z5.frozen
      have l6 := HF6.out.z5.lt
      go_wp2
      refine ⟨xs_, ?_⟩
      obtain ⟨k1, k2, k3, k4⟩ := HF6.out.out
      have K1 := Lib.hid k1
      have K2 := Lib.hid k2
      have K3 := Lib.hid k3
      have K4 := Lib.hid k4
      clear k1 k2 k3 k4 e0 e1 e2 e3 f6 l6
      refine anyB_one (i := 5) (by kernel_rfl) rfl rfl ?_
      intro w7 hb7 K hK
      go_wp2
      refine ⟨xs_, ?_⟩
      refine anyB_end (by kernel_rfl) ?_
      intro w8 hb8
      have hb68 : Below (w6.heap.size) _ w8 := (show Below w6.heap.size _ w7 by simpa [World.setCell] using hb7).trans (by have := hb7.size; exact hb8.mono (by simpa [World.setCell] using this))
      simp only [Calm]
      have ck := (K1.out.below hb68 HF6.out.z5.lt).cell
      have hO8 := K2.out.kept (by simpa [World.setCell] using hb68)
      have hR8 := K3.out w8 (Ex.of_below (by simpa [World.setCell] using hb68))
      have hl8 := K4.out.trans (hb68.mono HF6.out.low.size)
      have HA8 := Lib.hid (And.intro hO8 (And.intro hR8 hl8))
      clear hO8 hR8 hl8 hb68 hb7 hb8
      go_wp2_with fail
      (try rw [Exit.noGoto_ret])
      refine bodyPost_ret (v := .tuple #[.slice (some ⟨gs, 0, none⟩) ps.length cs, .agg #[.slice none 0 0, .slice none 0 0, .slice none 0 0, .slice none 0 0], .bool false]) (by simp [results, Tryz.results82, go_sem, ck]) rfl ?_
      rw [HGO.out]
      refine ⟨gs, cs, ⟨none, none, none, none, 0, 0, 0, 0, 0, 0, 0, 0⟩, rfl, ?_, ?_, HA8.out.2.2⟩
      · have h := HA8.out.1.reads.more HA8.out.1.lt.2
        rw [hl3.out] at h
        exact h
      · intro p' hp'
        cases hp'
end Go.Proofs.YtphlojgmfkgeiaaGreatDoor
