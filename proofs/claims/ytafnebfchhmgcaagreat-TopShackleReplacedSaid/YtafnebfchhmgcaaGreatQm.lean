/- Joined texts: CB CA CC. -/
import Derived.Test.YtafnebfchhmgcaaGreatQl
import Derived.Test.YtafnebfchhmgcaaGreatQd
import Derived.Laws.EntriesVeiled
import Derived.Test.YtafnebfchhmgcaaGreatQf
import Derived.Test.YtafnebfchhmgcaaGreatQe
/- follow: orders one after the other, with a function that is called with the arms before and after. -/
namespace Go.Proofs.YtafnebfchhmgcaaGreat
open Go.RowKit Go.Sort Go.Shelf
set_option linter.unusedSimpArgs false
set_option linter.unusedVariables false
attribute [local go_sem] cell_if frozen_if grow_cell
/-- Blocks of arms, orders and modules. -/
def armT (t : TypeId) : Prop := t = 36 ∨ t = 45 ∨ t = 115
/-- What the function leaves as it is. -/
def KeepArm (W W' : World) : Prop := ∀ j t cs, armT t → Blk W j t cs → Blk W' j t cs
/-- What follow itself leaves as it is. -/
def KeepOut (W W' : World) : Prop := W.heap.size ≤ W'.heap.size ∧ ∀ j t cs, t ≠ 36 → Blk W j t cs → Blk W' j t cs
theorem KeepOut.of_below {W W' : World} (h : Below W.heap.size W W') : KeepOut W W' := ⟨h.size, fun _ _ _ _ hk => hk.kept h⟩
theorem KeepOut.trans {a b c : World} (h : KeepOut a b) (k : KeepOut b c) : KeepOut a c := ⟨Nat.le_trans h.1 k.1, fun j t cs ht hk => k.2 j t cs ht (h.2 j t cs ht hk)⟩
theorem KeepOut.put {a b : World} {k : Nat} {x : Array Value} {v0 v1 v2 v3 v4 : Value} (h : KeepOut a b) (hk : Blk b k 36 x) : KeepOut a (((((b.setCell ⟨k, 0, none⟩ v0).setCell ⟨k, 1, none⟩ v1).setCell ⟨k, 2, none⟩ v2).setCell ⟨k, 3, none⟩ v3).setCell ⟨k, 4, none⟩ v4) := by
  have e5 : ∀ (V : World) (p : Addr) (u : Value), (V.setCell p u).heap.size = V.heap.size := fun V p u => by simp [World.setCell]
  refine ⟨by rw [e5, e5, e5, e5, e5]; exact h.1, fun j t cs ht hj => ?_⟩
  have h1 := h.2 j t cs ht hj
  exact put5_far h1 (blk_ne h1 hk ht)
def BlkArm (W : World) (g : Nat) (b : Ar) : Prop := Blk W g 115 (mds b.m).toArray
theorem BlkArm.at {W : World} {g : Nat} {b : Ar} {n : Nat} (h : BlkArm W g b) (hn : b.m.length = n) : MsAt W (g + 1) (some ⟨g, 0, none⟩) n b.m := by
  have := Reads.blk (size := 4) (n := n) h (by simp [mds_len, hn])
  simpa using this
/-- What is known of the function that is called. -/
structure EachI (P : Program) (a : Ar) (l : List Od) (n g : Nat) (cb : Array Value) (Bz : Nat) (w : World) (G : Nat → World → Prop) : Prop where
  start : ∀ W, Below w.heap.size w W → G 0 W
  keep : ∀ k W W', G k W → KeepOut W W' → G k W'
  call : ∀ k (hk : k < l.length) W b g1 g2, G k W → Below Bz w W → goTo a (l.take k) = some b → stepE b l[k] = 0 → BlkArm W g1 b → BlkArm W g2 (stepA b l[k]) →
    Calls P g (#[.agg #[.int .i64 (l[k]).n, .int .i64 (l[k]).c], .agg #[.slice (some ⟨g1, 0, none⟩) n n, .int .i64 a.lo, .int .i64 a.hi, .int .i64 a.cur, .int .i64 a.lim], .agg #[.slice (some ⟨g2, 0, none⟩) n n, .int .i64 a.lo, .int .i64 a.hi, .int .i64 a.cur, .int .i64 a.lim]] ++ cb) W fun e w' => e = .returned (.tuple #[]) ∧ G (k + 1) w' ∧ Below Bz W w' ∧ KeepArm W w'
def FolRes (w : World) (a : Ar) (l : List Od) (n Bz : Nat) (G : Nat → World → Prop) (e : Ending) (w' : World) : Prop := Below Bz w w' ∧
  ((∃ b g, goTo a l = some b ∧ e = .returned (.tuple #[.agg #[.slice (some ⟨g, 0, none⟩) n n, .int .i64 a.lo, .int .i64 a.hi, .int .i64 a.cur, .int .i64 a.lim], .int .i64 0, .int .i64 0]) ∧ BlkArm w' g b ∧ w.heap.size ≤ g ∧ G l.length w') ∨
  (∃ k b, ∃ hk : k < l.length, goTo a (l.take k) = some b ∧ stepE b l[k] ≠ 0 ∧ e = .returned (.tuple #[.agg #[.slice none 0 0, .int .i64 0, .int .i64 0, .int .i64 0, .int .i64 0], .int .i64 (k : Int), .int .i64 (stepE b l[k])])))
/-- Between two orders. -/
structure FlM (w : World) (a : Ar) (l : List Od) (n Bz : Nat) (G : Nat → World → Prop) (b9 k : Nat) (g : Nat) (b : Ar) (W : World) : Prop where
  res : Blk W (w.heap.size + 1) 36 #[.slice none 0 0, .int .i64 0, .int .i64 0, .int .i64 0, .int .i64 0]
  now : Blk W b9 36 #[.slice (some ⟨g, 0, none⟩) n n, .int .i64 a.lo, .int .i64 a.hi, .int .i64 a.cur, .int .i64 a.lim]
  row : BlkArm W g b
  low : Below Bz w W
  gh : G k W
  go : goTo a (l.take k) = some b
  g9 : w.heap.size + 1 + 1 ≤ b9
  gg : w.heap.size ≤ g
  le : w.heap.size + 1 + 1 ≤ W.heap.size
theorem FlM.kept {P : Program} {w : World} {a : Ar} {l : List Od} {n Bz : Nat} {G : Nat → World → Prop} {b9 k : Nat} {g : Nat} {b : Ar} {W W' : World} {f : Nat} {cb : Array Value} (h : FlM w a l n Bz G b9 k g b W) (hE : EachI P a l n f cb Bz w G) (hz : Bz ≤ w.heap.size) (hb : Below W.heap.size W W') : FlM w a l n Bz G b9 k g b W' :=
  ⟨h.res.kept hb, h.now.kept hb, Blk.kept h.row hb, h.low.trans (hb.mono (Nat.le_trans hz (Nat.le_trans (by omega) h.le))), hE.keep _ _ _ h.gh (KeepOut.of_below hb), h.go, h.g9, h.gg, Nat.le_trans h.le hb.size⟩
set_option maxRecDepth 100000 in
set_option maxHeartbeats 8000000 in
theorem follow_any (B B2 Bz : Nat) (A A2 : Option Addr) (n c n2 c2 g : Nat) (cb : Array Value) (a : Ar) (l : List Od) (w : World) (G : Nat → World → Prop) (hM : MsAt w B A n a.m) (hB : B ≤ w.heap.size) (hn : n ≤ 17) (hE : armE a = 0) (hO : Reads w B2 2 A2 n2 (ods l)) (hB2 : B2 ≤ Bz) (hz : Bz ≤ w.heap.size) (hn2 : n2 ≤ 1000) (ho : ∀ o ∈ l, orderE o = 0)
    (eg : Enters Tryz.prog g) (hI : EachI Tryz.prog a l n g cb Bz w G) :
    Calls Tryz.prog 48 #[.agg #[.slice A n c, .int .i64 a.lo, .int .i64 a.hi, .int .i64 a.cur, .int .i64 a.lim], .slice A2 n2 c2, .func (.func g) #[] cb] w (FolRes w a l n Bz G) := by
  have hl := (md_at hM).1
  obtain ⟨hl2, hat⟩ := od_at hO
  have HMs := Lib.hid hM
  have HA := Lib.hid hat
  have HI := Lib.hid hI
  have HE := Lib.hid hE
  have HO := Lib.hid ho
  have HL2 := Lib.hid hl2
  have HOw := Lib.hid (fun W (hW : Below w.heap.size w W) => aown_any B A n c a W (hM.below (hW.mono hB)) (by have := hW.size; omega) (by omega))
  unfold Enters at eg
  clear hM hat hI hE ho hO
  go_enter Tryz.func48, Tryz.ntmps48
  go_wp2_with fail
  refine (HOw.out _ bl_).mono ?_
  rintro e w1 ⟨g1, rfl, hg1, hgl, hb1⟩
  have hs1 := hb1.size
  simp at hs1 hgl
  have bR1 : Blk w1 (w.heap.size + 1) 36 #[.slice none 0 0, .int .i64 0, .int .i64 0, .int .i64 0, .int .i64 0] := bk_
  have hlow1 : Below w.heap.size w w1 := bl_
  have HR1 := Lib.hid bR1
  have HL1 := Lib.hid hlow1
  have HG1 := Lib.hid hg1
  have hgl1 := hg1.lt
  rw [hl]
  clear hb1 hg1 bR1 hlow1 HOw
  go_upto_block 0 with fail
  have hal : Below w1.heap.size w1 (w1.alloc (.cells #[.slice (some ⟨g1, 0, none⟩) n n, .int .i64 a.lo, .int .i64 a.hi, .int .i64 a.cur, .int .i64 a.lim] 36)) := bl_
  have HF0 : Hid (FlM w a l n Bz G w1.heap.size 0 g1 a (w1.alloc (.cells #[.slice (some ⟨g1, 0, none⟩) n n, .int .i64 a.lo, .int .i64 a.hi, .int .i64 a.cur, .int .i64 a.lim] 36))) := Lib.hid ⟨HR1.out.kept hal, Blk.new _ _ _, Blk.kept HG1.out hal, (HL1.out.mono hz).trans (hal.mono (by omega)), HI.out.start _ (HL1.out.trans (hal.mono (by omega))), rfl, by omega, by omega, by simp; omega⟩
  clear hal HR1 HL1 HG1
  generalize w1.heap.size = b9 at *
  generalize w1.alloc _ = W0 at *
  go_cut [10, 11, 12, 13, 18] (fun s10 s11 s12 s13 s18 wx => ∃ (g2 : Nat) (b : Ar), Hid (FlM w a l n Bz G b9 l.length g2 b wx))
  case first =>
    go_wp2_with fail
    go_loopw [10, 11, 12, 13, 18] (fun s10 s11 s12 s13 s18 wr => ∃ (k : Nat) (g2 : Nat) (b : Ar), k ≤ n2 ∧ s18 = .int .i64 k ∧ Hid (FlM w a l n Bz G b9 k g2 b wr)) (fun _ _ _ _ s18 _ => n2 - (intOf s18).toNat)
    case atStart => exact ⟨0, g1, a, by omega, rfl, HF0⟩
    case round =>
      obtain ⟨k, g2, b, hk, rfl, HF⟩ := hrel
      have hg9 := HF.out.g9
      have hgg := HF.out.gg
      have hle := HF.out.le
      by_cases hlt : k < n2
      · have hkl : k < l.length := by omega
        obtain ⟨bb, oo, eA, hbb, z0, z1⟩ := HA.out k hkl
        have kb : ∀ i, wr.cell? ⟨bb, i, none⟩ = w.cell? ⟨bb, i, none⟩ := fun i => HF.out.low.cell (p := ⟨bb, i, none⟩) (by show bb < Bz; omega)
        rw [← kb] at z0 z1
        clear kb
        have hbw : bb < wr.heap.size := by omega
        have hgo2 := goTo_snoc (a := a) (b := b) (o := l[k]) HF.out.go
        rw [← List.take_succ_eq_append_getElem hkl] at hgo2
        obtain ⟨hEb, hS4⟩ := goTo_ok HE.out (fun x hx => HO.out x (List.mem_of_mem_take hx)) HF.out.go
        have hbl : b.m.length = n := by rw [hS4.len, hl]
        have hok := HO.out _ (List.getElem_mem hkl)
        have hcall := fun W g3 hG hW hs h2 h3 => HI.out.call k hkl W b g2 g3 hG hW HF.out.go hs h2 h3
        obtain ⟨o, he⟩ : ∃ o, l[k] = o := ⟨_, rfl⟩
        have hno : stepE b l[k] ≠ 0 → stepE b o ≠ 0 := fun h => by rw [← he]; exact h
        have hfin : ∀ (w' : World) (e : Ending), Below Bz w w' → stepE b o ≠ 0 → e = .returned (.tuple #[.agg #[.slice none 0 0, .int .i64 0, .int .i64 0, .int .i64 0, .int .i64 0], .int .i64 (k : Int), .int .i64 (stepE b o)]) → FolRes w a l n Bz G e w' := fun w' e hb hs hq => ⟨hb, .inr ⟨k, b, hkl, HF.out.go, by rw [he]; exact hs, by rw [he]; exact hq⟩⟩
        rw [he] at z0 z1 hgo2 hok hcall
        have HFin := Lib.hid hfin
        have HCall := Lib.hid hcall
        have HGo := Lib.hid hgo2
        have hb1 : Below wr.heap.size wr (wr.alloc (.cells #[.int .i64 o.n, .int .i64 o.c] 45)) := bl_
        have hF1 := HF.out.kept HI.out hz hb1
        have HF1 := Lib.hid hF1
        have hst := step_any (g2 + 1) (some ⟨g2, 0, none⟩) n n b o _ (hF1.row.at hbl) (Blk.lt hF1.row) hn hEb hok
        rw [hS4.lo, hS4.hi, hS4.cur, hS4.lim] at hst
        have HSt := Lib.hid hst
        have HB1 := Lib.hid hb1
        have c9 := HF.out.now.cell
        have l9 := HF.out.now.lt
        have HS4 := Lib.hid hS4
        subst eA
        clear hfin hcall hno he hgo2 hok hst hb1 hF1 hS4 hEb
        obtain ⟨on, oc⟩ := o
        dsimp only at z0 z1
        go_wp2_with fail
        refine HSt.out.mono ?_
        rintro e w2 ⟨hb2, hres⟩
        have HF2 := Lib.hid (HF1.out.kept HI.out hz hb2)
        have hs2 := hb2.size
        simp at hs2
        have bO2 : Blk w2 wr.heap.size 45 #[.int .i64 on, .int .i64 oc] := (Blk.new wr 45 #[.int .i64 on, .int .i64 oc]).kept hb2
        have HBO := Lib.hid bO2
        clear hb2 bO2 c9 l9 z0 z1 HF1 HSt
        rcases hres with ⟨hs0, g3, rfl, hg3, hgl3⟩ | ⟨hs0, rfl⟩
        · simp at hgl3
          have hb3 : Below w2.heap.size w2 (w2.alloc (.cells #[.slice (some ⟨g3, 0, none⟩) n n, .int .i64 a.lo, .int .i64 a.hi, .int .i64 a.cur, .int .i64 a.lim] 36)) := bl_
          have hF3 := HF2.out.kept HI.out hz hb3
          have hg3' : BlkArm (w2.alloc (.cells #[.slice (some ⟨g3, 0, none⟩) n n, .int .i64 a.lo, .int .i64 a.hi, .int .i64 a.cur, .int .i64 a.lim] 36)) g3 (stepA b ⟨on, oc⟩) := Blk.kept hg3 hb3
          have HC := Lib.hid (HCall.out _ g3 hF3.gh hF3.low hs0 hF3.row hg3')
          have HF3 := Lib.hid hF3
          have HG3 := Lib.hid hg3'
          have HBO3 := Lib.hid (HBO.out.kept hb3)
          have hs0' := hs0
          have HS0 := Lib.hid hs0
          have BN3 := Lib.hid (Blk.new w2 36 #[.slice (some ⟨g3, 0, none⟩) n n, .int .i64 a.lo, .int .i64 a.hi, .int .i64 a.cur, .int .i64 a.lim])
          have c9 := HF2.out.now.cell
          have l9 := HF2.out.now.lt
          have cO := HBO.out.cell
          have lO := HBO.out.lt
          rw [hbl, HS4.out.lo, HS4.out.hi, HS4.out.cur, HS4.out.lim]
          clear hb3 hF3 hg3' hg3 hs0 hs0'
          go_wp2_with fail
          refine HC.out.mono ?_
          rintro e w4 ⟨rfl, hG4, hb4, hk4⟩
          have hs4 := hb4.size
          have r4 := hk4 _ _ _ (.inl rfl) HF3.out.res
          have n4 := hk4 _ _ _ (.inl rfl) HF3.out.now
          have x4 := hk4 _ _ _ (.inl rfl) BN3.out
          have g4 : BlkArm w4 g3 (stepA b ⟨on, oc⟩) := hk4 _ _ _ (.inr (.inr rfl)) HG3.out
          have cx := x4.cell
          have lx := x4.lt
          have c9' := n4.cell
          have l9' := n4.lt
          have f9' := n4.frozen
          have k2 := put5_blk (v0 := .slice (some ⟨g3, 0, none⟩) n n) (v1 := .int .i64 a.lo) (v2 := .int .i64 a.hi) (v3 := .int .i64 a.cur) (v4 := .int .i64 a.lim) n4
          have k1 := put5_far (b := b9) (v0 := .slice (some ⟨g3, 0, none⟩) n n) (v1 := .int .i64 a.lo) (v2 := .int .i64 a.hi) (v3 := .int .i64 a.cur) (v4 := .int .i64 a.lim) r4 (by omega)
          have k3 := put5_far (b := b9) (v0 := .slice (some ⟨g3, 0, none⟩) n n) (v1 := .int .i64 a.lo) (v2 := .int .i64 a.hi) (v3 := .int .i64 a.cur) (v4 := .int .i64 a.lim) g4 (blk_ne g4 n4 (by decide))
          have k4 := put5_low (b := b9) (v0 := .slice (some ⟨g3, 0, none⟩) n n) (v1 := .int .i64 a.lo) (v2 := .int .i64 a.hi) (v3 := .int .i64 a.cur) (v4 := .int .i64 a.lim) (HF3.out.low.trans hb4) (by omega)
          have k5 := HI.out.keep _ _ _ hG4 (KeepOut.put (v0 := .slice (some ⟨g3, 0, none⟩) n n) (v1 := .int .i64 a.lo) (v2 := .int .i64 a.hi) (v3 := .int .i64 a.cur) (v4 := .int .i64 a.lim) (KeepOut.of_below (Below.refl _ w4)) n4)
          have hgo' := HGo.out
          rw [if_pos HS0.out] at hgo'
          have e5 : ∀ (V : World) (p : Addr) (u : Value), (V.setCell p u).heap.size = V.heap.size := fun V p u => by simp [World.setCell]
          have HN : Hid (FlM w a l n Bz G b9 (k + 1) g3 (stepA b ⟨on, oc⟩) _) := Lib.hid ⟨k1, k2, k3, k4, k5, hgo', by omega, by omega, by rw [e5, e5, e5, e5, e5]; have := HF3.out.le; omega⟩
          clear k1 k2 k3 k4 k5 hgo' r4 n4 x4 g4 hG4 hb4 hk4 c9 l9 cO lO
          go_wp2_with fail
          go_roundw
          case rel => exact ⟨k + 1, g3, _, by omega, by go_num, HN⟩
          case measure => simp [intOf]; omega
        · have hne : (stepE b ⟨on, oc⟩ != 0) = true := by simpa using hs0
          have k2 := (put5_blk (v0 := .slice none 0 0) (v1 := .int .i64 0) (v2 := .int .i64 0) (v3 := .int .i64 0) (v4 := .int .i64 0) HF2.out.res).alloc (.cells #[.slice none 0 0, .int .i64 0, .int .i64 0, .int .i64 0, .int .i64 0] 36)
          have e5 : ∀ (V : World) (p : Addr) (u : Value), (V.setCell p u).heap.size = V.heap.size := fun V p u => by simp [World.setCell]
          have k4 := (put5_low (b := w.heap.size + 1) (v0 := .slice none 0 0) (v1 := .int .i64 0) (v2 := .int .i64 0) (v3 := .int .i64 0) (v4 := .int .i64 0) HF2.out.low (by omega)).alloc (by rw [e5, e5, e5, e5, e5]; have := HF2.out.le; omega) (.cells #[.slice none 0 0, .int .i64 0, .int .i64 0, .int .i64 0, .int .i64 0] 36)
          have K4 := Lib.hid k4
          have K2 := Lib.hid k2
          have cR := HF2.out.res.cell
          have lR := HF2.out.res.lt
          have fR := HF2.out.res.frozen
          have HS0 := Lib.hid hs0
          clear k2 k4 hs0
          generalize stepE b ⟨on, oc⟩ = er at *
          go_wp2_with fail
          have ck := K2.out.cell
          refine bodyPost_ret (v := .tuple #[.agg #[.slice none 0 0, .int .i64 0, .int .i64 0, .int .i64 0, .int .i64 0], .int .i64 (k : Int), .int .i64 er]) (by simp [results, Tryz.results48, go_sem, ck]) rfl (HFin.out _ _ K4.out HS0.out rfl)
      · obtain rfl : k = n2 := by omega
        go_wp2_with fail
        go_meet
        case rel => exact ⟨g2, b, by rw [hl2]; exact HF⟩
  rename World => w30
  obtain ⟨g2, b, HF⟩ := hcut
  have hgo := HF.out.go
  rw [List.take_of_length_le (Nat.le_refl _)] at hgo
  have hg9 := HF.out.g9
  have cN := HF.out.now.cell
  have lN := HF.out.now.lt
  have cR := HF.out.res.cell
  have lR := HF.out.res.lt
  have fR := HF.out.res.frozen
  have k2 := put5_blk (v0 := .slice (some ⟨g2, 0, none⟩) n n) (v1 := .int .i64 a.lo) (v2 := .int .i64 a.hi) (v3 := .int .i64 a.cur) (v4 := .int .i64 a.lim) HF.out.res
  have k3 := put5_far (b := w.heap.size + 1) (v0 := .slice (some ⟨g2, 0, none⟩) n n) (v1 := .int .i64 a.lo) (v2 := .int .i64 a.hi) (v3 := .int .i64 a.cur) (v4 := .int .i64 a.lim) HF.out.row (blk_ne HF.out.row HF.out.res (by decide))
  have k4 := put5_low (b := w.heap.size + 1) (v0 := .slice (some ⟨g2, 0, none⟩) n n) (v1 := .int .i64 a.lo) (v2 := .int .i64 a.hi) (v3 := .int .i64 a.cur) (v4 := .int .i64 a.lim) HF.out.low (by omega)
  have k5 := HI.out.keep _ _ _ HF.out.gh (KeepOut.put (v0 := .slice (some ⟨g2, 0, none⟩) n n) (v1 := .int .i64 a.lo) (v2 := .int .i64 a.hi) (v3 := .int .i64 a.cur) (v4 := .int .i64 a.lim) (KeepOut.of_below (Below.refl _ w30)) HF.out.res)
  have HFin : Hid (FolRes w a l n Bz G (.returned (.tuple #[.agg #[.slice (some ⟨g2, 0, none⟩) n n, .int .i64 a.lo, .int .i64 a.hi, .int .i64 a.cur, .int .i64 a.lim], .int .i64 0, .int .i64 0])) _) := Lib.hid ⟨k4, .inl ⟨b, g2, hgo, rfl, k3, HF.out.gg, k5⟩⟩
  have K2 := Lib.hid k2
  clear k2 k3 k4 k5 hgo
  go_wp2_with fail
  have ck := K2.out.cell
  refine bodyPost_ret (v := .tuple #[.agg #[.slice (some ⟨g2, 0, none⟩) n n, .int .i64 a.lo, .int .i64 a.hi, .int .i64 a.cur, .int .i64 a.lim], .int .i64 0, .int .i64 0]) (by simp [results, Tryz.results48, go_sem, ck]) rfl HFin.out
end Go.Proofs.YtafnebfchhmgcaaGreat
/- mapped: the errors of orders; checkOrders. -/
namespace Go.Proofs.YtafnebfchhmgcaaGreat
open Go.RowKit Go.Sort Go.Shelf
set_option linter.unusedSimpArgs false
set_option linter.unusedVariables false
attribute [local go_sem] cell_if frozen_if grow_cell
theorem elemErrno : Elem Tryz.prog 187 31 1 8 := elem_of Tryz.underlying187 (z := .int .i64 0) (by kernel_rfl) rfl (by decide)
/-- A row of the call's own. -/
def MapRes (t : TypeId) (w : World) (zs : List Value) (e : Ending) (w' : World) : Prop := ∃ v, e = .returned v ∧ w'.ownsRow w.heap.size t 1 v zs.length zs ∧ Below w.heap.size w w'
set_option maxRecDepth 100000 in
set_option maxHeartbeats 2000000 in
theorem mapOE_any (B : Nat) (A : Option Addr) (n c : Nat) (l : List Od) (w : World)  (hr : Reads w B 2 A n (ods l)) (hB : B ≤ w.heap.size) (hn : n ≤ 1000) :
    Calls Tryz.prog 113 #[.slice A n c, .func (.func 54) #[] #[]] w (MapRes 31 w (l.map fun x => Value.int .i64 (orderE x))) := by
  obtain ⟨hl, ha⟩ := od_at hr
  have HL := Lib.hid hl
  have HA := Lib.hid ha
  clear hl ha hr
  go_enter Tryz.func113, Tryz.ntmps113
  go_wp2_with fail
  go_loopw [5, 10] (fun v i wr => ∃ k : Nat, k ≤ n ∧ i = .int .i64 k ∧ wr.ownsRow w.heap.size 31 1 v k ((l.take k).map fun x => Value.int .i64 (orderE x)) ∧ Below w.heap.size w wr) (fun _ i _ => n - (intOf i).toNat)
  case atStart => exact ⟨0, by omega, rfl, World.ownsRow_nil _ _ _ _, bl_⟩
  case round =>
    obtain ⟨k, hk, rfl, hO, hb⟩ := hrel
    have HO := Lib.hid hO
    clear hO
    have hs := hb.size
    by_cases hlt : k < n
    · have hkl : k < l.length := by rw [HL.out]; exact hlt
      obtain ⟨b, o, eA, hbb, hz⟩ := HA.out k hkl
      have kb : ∀ i, wr.cell? ⟨b, i, none⟩ = w.cell? ⟨b, i, none⟩ := fun i => hb.cell (p := ⟨b, i, none⟩) (by simp; omega)
      simp only [← kb] at hz
      clear kb
      have hbw : b < wr.heap.size := by omega
      subst eA
      have Hd : Hid (((l.take (k + 1)).map fun x => Value.int .i64 (orderE x)) = ((l.take k).map fun x => Value.int .i64 (orderE x)) ++ [(fun x => Value.int .i64 (orderE x)) l[k]]) := by
        show _ = _
        rw [List.take_succ_eq_append_getElem hkl, List.map_append]; rfl
      generalize l[k] = x at *
      obtain ⟨on, oc⟩ := x; obtain ⟨z0, z1⟩ := hz; dsimp only at z0 z1
      go_wp2_with (first | (go_at_call 54; refine (ocheck_any ⟨on, oc⟩ _).mono ?_; rintro e w1 ⟨rfl, hb1⟩; have hs1 := hb1.size; simp at hs1; have HO1 := Lib.hid (own_kept (HO.out.alloc _) hb1)) | (at_builtin; refine wpList_app 187 31 1 8 elemErrno rfl (.tmp 14) (.tmp 18) rfl w.heap.size _ k _ rfl HO1.out 1 rfl rfl ?h1 (by decide) ?h3 (by omega) (by omega) ?_))
      case h1 => rfl
      case h3 => unfold maxLen; omega
      intro g' cap' w' hown' hb' _ hs'
      go_wp2
      go_roundw
      case rel => exact ⟨k + 1, by omega, by go_num, by rw [Hd.out]; simpa using hown', (hb.trans (((Below.refl _ _).alloc hs _).trans (hb1.mono (by simp; omega)))).trans hb'⟩
      case measure => simp [intOf]; omega
    · obtain rfl : k = n := by omega
      have HL2 := Lib.hid HL.out
      go_wp2
      go_ret
      refine ⟨_, rfl, ?_, hb⟩
      have := HO.out
      rw [List.take_of_length_le (by rw [HL2.out]; exact Nat.le_refl _)] at this
      rw [List.length_map, HL2.out]
      exact this
def ordsE (a : Ar) (l : List Od) : Int := or0 (firstE [armE a, whenE (decide ((256 : Int) < (l.length : Int))) 5]) (firstE (l.map orderE))
set_option maxRecDepth 100000 in
set_option maxHeartbeats 4000000 in
theorem checkOrders_any (B B2 : Nat) (A A2 : Option Addr) (n c n2 c2 : Nat) (a : Ar) (l : List Od) (w : World) (hM : MsAt w B A n a.m) (hB : B ≤ w.heap.size) (hF : FitA a) (hnc : n ≤ c) (hO : Reads w B2 2 A2 n2 (ods l)) (hB2 : B2 ≤ w.heap.size) (hn2 : n2 ≤ 1000) :
    Calls Tryz.prog 47 #[.agg #[.slice A n c, .int .i64 a.lo, .int .i64 a.hi, .int .i64 a.cur, .int .i64 a.lim], .slice A2 n2 c2] w fun e w' => e = .returned (.int .i64 (ordsE a l)) ∧ Below w.heap.size w w' := by
  have hl2 := (od_at hO).1
  have HC := Lib.hid (fun W (hW : Below w.heap.size w W) => CheckArm_any B A n c a W (hM.below (hW.mono hB)) (by have := hW.size; omega) hF hnc)
  have HM := Lib.hid (fun W (hW : Below w.heap.size w W) => mapOE_any B2 A2 n2 c2 l W (hO.below (hW.mono hB2)) (by have := hW.size; omega) hn2)
  obtain ⟨E1, hE1⟩ : ∃ E1, firstE [armE a, whenE (decide ((256 : Int) < (n2 : Int))) 5] = E1 := ⟨_, rfl⟩
  have HE1 := Lib.hid hE1
  have HV : Hid (ordsE a l = or0 E1 (firstE (l.map orderE))) := Lib.hid (by unfold ordsE; rw [hl2, hE1])
  clear hM hO hF hE1
  go_enter Tryz.func47, Tryz.ntmps47
  go_wp2_with fail
  refine (HC.out _ bl_).mono ?_
  rintro e w1 ⟨rfl, hb1⟩
  have bA : Blk w1 w.heap.size 36 #[.slice A n c, .int .i64 a.lo, .int .i64 a.hi, .int .i64 a.cur, .int .i64 a.lim] := bk_
  have hlow : Below w.heap.size w w1 := bl_
  have HL1 := Lib.hid hlow
  clear hb1 hlow
  go_wp2_with fail
  refine (awhen_any (decide ((256 : Int) < (n2 : Int))) 5 _).mono ?_
  rintro e w2 ⟨rfl, rfl⟩
  go_wp2_with fail
  refine (afirst_any (w1.heap.size + 1) _ 2 2 [armE a, whenE (decide ((256 : Int) < (n2 : Int))) 5] _ (by simpa using Reads.new (size := 1) w1 (([armE a, whenE (decide ((256 : Int) < (n2 : Int))) 5]).map (.int .i64)).toArray 31 2 rfl) (by unfold maxLen; decide)).mono ?_
  rintro e w3 ⟨rfl, rfl⟩
  rw [HE1.out]
  have HL3 : Hid (Below w.heap.size w (w1.alloc (.cells (([armE a, whenE (decide ((256 : Int) < (n2 : Int))) 5]).map (.int .i64)).toArray 31))) := Lib.hid (HL1.out.alloc HL1.out.size _)
  by_cases h1 : E1 = 0
  · subst h1
    go_wp2_with fail
    refine (HM.out _ HL3.out).mono ?_
    rintro e w4 ⟨v, rfl, hr4, hb4⟩
    obtain ⟨A4, c4, rfl, _, hc4, hrd⟩ := own_form hr4
    have HL4 := Lib.hid (HL3.out.trans (hb4.mono HL3.out.size))
    have hrd' : Reads w4 w4.heap.size 1 A4 n2 ((l.map orderE).map (.int .i64)) := by
      rw [List.length_map, hl2] at hrd
      rw [List.map_map]
      exact hrd
    have HF4 := Lib.hid (afirst_any w4.heap.size A4 n2 c4 (l.map orderE) w4 hrd' (by unfold maxLen; omega))
    rw [show (l.map fun x => Value.int IntKind.i64 (orderE x)).length = n2 by rw [List.length_map, hl2]]
    clear hr4 hb4 hrd hrd'
    go_wp2_with fail
    refine HF4.out.mono ?_
    rintro e w5 ⟨rfl, rfl⟩
    go_wp2_with fail
    go_ret
    exact ⟨by rw [HV.out]; rfl, HL4.out⟩
  · have hne : (E1 != 0) = true := by simpa using h1
    go_wp2_with fail
    go_ret
    exact ⟨by rw [HV.out]; unfold or0; rw [if_neg h1]; rfl, HL3.out⟩
end Go.Proofs.YtafnebfchhmgcaaGreat
/- Work of the program: the works of orders. -/
namespace Go.Proofs.YtafnebfchhmgcaaGreat
open Go.RowKit Go.Sort Go.Shelf
set_option linter.unusedSimpArgs false
set_option linter.unusedVariables false
attribute [local go_sem] cell_if frozen_if grow_cell
theorem wkGo_snoc (set : List Int) (c : Int) (x : Md) : ∀ (l : List Md) (k : Nat), wkGo set c k (l ++ [x]) = wkGo set c k l + (if hasI set ((k + l.length : Nat) : Int) then c * (x.q + (x.q + c)) else 0)
  | [], k => by
    show (if hasI set (k : Int) then _ else _) + 0 = 0 + _
    rw [List.length_nil, Nat.add_zero]
    omega
  | z :: r, k => by
    have ih := wkGo_snoc set c x r (k + 1)
    show _ + wkGo set c (k + 1) (r ++ [x]) = (_ + wkGo set c (k + 1) r) + _
    rw [ih, List.length_cons, show k + 1 + r.length = k + (r.length + 1) by omega]
    omega
theorem mul_bd {c s : Int} (h1 : -1000 ≤ c ∧ c ≤ 1000) (h2 : -34000 ≤ s ∧ s ≤ 34000) : -34000000 ≤ c * s ∧ c * s ≤ 34000000 := by
  have e := Int.natAbs_mul c s
  have := Nat.mul_le_mul (show c.natAbs ≤ 1000 by omega) (show s.natAbs ≤ 34000 by omega)
  omega
theorem wkGo_bd {set : List Int} {c : Int} (hc : -1000 ≤ c ∧ c ≤ 1000) : ∀ (l : List Md) (k : Nat), (∀ x ∈ l, 0 ≤ x.q ∧ x.q ≤ 16384) → -(34000000 * (l.length : Int)) ≤ wkGo set c k l ∧ wkGo set c k l ≤ 34000000 * (l.length : Int)
  | [], _, _ => ⟨by show _ ≤ (0 : Int); simp, by show (0 : Int) ≤ _; simp⟩
  | x :: r, k, h => by
    have ih := wkGo_bd (set := set) hc r (k + 1) (fun y hy => h y (List.mem_cons_of_mem _ hy))
    have hx := h x (List.mem_cons_self ..)
    have hb := mul_bd (s := x.q + (x.q + c)) hc (by omega)
    have e : wkGo set c k (x :: r) = (if hasI set (k : Int) then c * (x.q + (x.q + c)) else 0) + wkGo set c (k + 1) r := rfl
    rw [e, List.length_cons]
    split <;> omega
theorem work_bd : ∀ {l : List Od} {a b : Ar}, armE a = 0 → (∀ o ∈ l, orderE o = 0) → goTo a l = some b → -(544000000 * (l.length : Int)) ≤ workL a l ∧ workL a l ≤ 544000000 * (l.length : Int)
  | [], a, b, _, _, _ => ⟨by show _ ≤ (0 : Int); simp, by show (0 : Int) ≤ _; simp⟩
  | o :: r, a, b, hE, ho, h => by
    have h' : (if stepE a o = 0 then goTo (stepA a o) r else none) = some b := h
    split at h'
    · rename_i h0
      have hoo := order_zero (ho o (List.mem_cons_self ..))
      have ih := work_bd (step_ok hE hoo.1.1 h0) (fun y hy => ho y (List.mem_cons_of_mem _ hy)) h'
      have hF := fit_of hE
      have hb := wkGo_bd (set := choiceA a o) hoo.2 a.m 0 hF.q
      have h16 := hF.n16
      have e : workL a (o :: r) = wkA a o + workL (stepA a o) r := rfl
      unfold wkA at e
      rw [e, List.length_cons]
      omega
    · cases h'
/-- Between two modules. -/
structure WkM (W0 : World) (sb g1 g2 n : Nat) (a : Ar) (b : Ar) (o : Od) (s : Int) (W : World) : Prop where
  ord : Blk W W0.heap.size 45 #[.int .i64 o.n, .int .i64 o.c]
  bef : Blk W (W0.heap.size + 1) 36 #[.slice (some ⟨g1, 0, none⟩) n n, .int .i64 a.lo, .int .i64 a.hi, .int .i64 a.cur, .int .i64 a.lim]
  aft : Blk W (W0.heap.size + 1 + 1) 36 #[.slice (some ⟨g2, 0, none⟩) n n, .int .i64 a.lo, .int .i64 a.hi, .int .i64 a.cur, .int .i64 a.lim]
  sum : Blk W sb 3 #[.int .i64 s]
  r1 : BlkArm W g1 b
  r2 : BlkArm W g2 (stepA b o)
  ex : Ex [sb] W0 W
  le : W0.heap.size + 1 + 1 + 1 ≤ W.heap.size
  ls : sb < W0.heap.size
theorem WkM.kept {W0 : World} {sb g1 g2 n : Nat} {a b : Ar} {o : Od} {s : Int} {W W' : World} (h : WkM W0 sb g1 g2 n a b o s W) (hb : Below W.heap.size W W') : WkM W0 sb g1 g2 n a b o s W' :=
  ⟨h.ord.kept hb, h.bef.kept hb, h.aft.kept hb, h.sum.kept hb, Blk.kept h.r1 hb, Blk.kept h.r2 hb, h.ex.grown hb, Nat.le_trans h.le hb.size, h.ls⟩
theorem WkM.put {W0 : World} {sb g1 g2 n : Nat} {a b : Ar} {o : Od} {s : Int} {W : World} (h : WkM W0 sb g1 g2 n a b o s W) (s' : Int) : WkM W0 sb g1 g2 n a b o s' (W.setCell ⟨sb, 0, none⟩ (.int .i64 s')) := by
  have e5 : ∀ (V : World) (p : Addr) (u : Value), (V.setCell p u).heap.size = V.heap.size := fun V p u => by simp [World.setCell]
  have hls := h.ls
  exact ⟨h.ord.far (p := ⟨sb, 0, none⟩) (show W0.heap.size ≠ sb by omega) _, h.bef.far (p := ⟨sb, 0, none⟩) (show W0.heap.size + 1 ≠ sb by omega) _, h.aft.far (p := ⟨sb, 0, none⟩) (show W0.heap.size + 1 + 1 ≠ sb by omega) _, h.sum.set_ 0 _, Blk.far h.r1 (p := ⟨sb, 0, none⟩) (blk_ne h.r1 h.sum (by decide)) _, Blk.far h.r2 (p := ⟨sb, 0, none⟩) (blk_ne h.r2 h.sum (by decide)) _, Ex.set_in (.inl (by simp)) h.ex _, by rw [e5]; exact h.le, hls⟩
set_option maxRecDepth 100000 in
set_option maxHeartbeats 4000000 in
theorem work1_any (sb g1 g2 n : Nat) (a b : Ar) (o : Od) (s : Int) (w : World) (hs : Blk w sb 3 #[.int .i64 s]) (h1 : BlkArm w g1 b) (h2 : BlkArm w g2 (stepA b o)) (hn : b.m.length = n) (h17 : n ≤ 17) (hq : ∀ x ∈ b.m, 0 ≤ x.q ∧ x.q ≤ 16384) (hc : -1000 ≤ o.c ∧ o.c ≤ 1000) (hsb : -1000000000000 ≤ s ∧ s ≤ 1000000000000) :
    Calls Tryz.prog 69 #[.agg #[.int .i64 o.n, .int .i64 o.c], .agg #[.slice (some ⟨g1, 0, none⟩) n n, .int .i64 a.lo, .int .i64 a.hi, .int .i64 a.cur, .int .i64 a.lim], .agg #[.slice (some ⟨g2, 0, none⟩) n n, .int .i64 a.lo, .int .i64 a.hi, .int .i64 a.cur, .int .i64 a.lim], .pointer (some ⟨sb, 0, none⟩)] w fun e w' => e = .returned (.tuple #[]) ∧ Blk w' sb 3 #[.int .i64 (s + wkA b o)] ∧ Ex [sb] w w' := by
  have HS := Lib.hid hs
  have H1 := Lib.hid h1
  have H2 := Lib.hid h2
  have HQ := Lib.hid hq
  have hls := hs.lt
  clear hs h1 h2 hq
  obtain ⟨set, hset⟩ : ∃ set, choiceA b o = set := ⟨_, rfl⟩
  have HSet := Lib.hid hset
  clear hset
  go_enter Tryz.func69, Tryz.ntmps69
  go_upto_block 0 with fail
  have hal : Below w.heap.size w (((w.alloc (.cells #[.int .i64 o.n, .int .i64 o.c] 45)).alloc (.cells #[.slice (some ⟨g1, 0, none⟩) n n, .int .i64 a.lo, .int .i64 a.hi, .int .i64 a.cur, .int .i64 a.lim] 36)).alloc (.cells #[.slice (some ⟨g2, 0, none⟩) n n, .int .i64 a.lo, .int .i64 a.hi, .int .i64 a.cur, .int .i64 a.lim] 36)) := bl_
  have HW : Hid (WkM w sb g1 g2 n a b o s (((w.alloc (.cells #[.int .i64 o.n, .int .i64 o.c] 45)).alloc (.cells #[.slice (some ⟨g1, 0, none⟩) n n, .int .i64 a.lo, .int .i64 a.hi, .int .i64 a.cur, .int .i64 a.lim] 36)).alloc (.cells #[.slice (some ⟨g2, 0, none⟩) n n, .int .i64 a.lo, .int .i64 a.hi, .int .i64 a.cur, .int .i64 a.lim] 36))) := Lib.hid ⟨bk_, bk_, bk_, HS.out.kept hal, Blk.kept H1.out hal, Blk.kept H2.out hal, Ex.of_below hal, by simp, hls⟩
  clear hal
  generalize ((w.alloc _).alloc _).alloc _ = W0 at *
  go_wp2_with fail
  go_loopw [7, 8, 12] (fun s7 s8 s12 wr => ∃ k : Nat, k ≤ n ∧ s12 = .int .i64 k ∧ Hid (WkM w sb g1 g2 n a b o (s + wkGo set o.c 0 (b.m.take k)) wr)) (fun _ _ s12 _ => n - (intOf s12).toNat)
  case atStart => exact ⟨0, by omega, rfl, Lib.hid (by rw [List.take_zero]; show WkM w sb g1 g2 n a b o (s + 0) W0; rw [Int.add_zero]; exact HW.out)⟩
  case round =>
    obtain ⟨k, hk, rfl, HW⟩ := hrel
    have hle := HW.out.le
    by_cases hlt : k < n
    · have hkl : k < b.m.length := by omega
      have hsn := wkGo_snoc set o.c b.m[k] (b.m.take k) 0
      rw [← List.take_succ_eq_append_getElem hkl, List.length_take, Nat.min_eq_left (Nat.le_of_lt hkl), Nat.zero_add] at hsn
      have hqk := HQ.out _ (List.getElem_mem hkl)
      have hbd := wkGo_bd (set := set) hc (b.m.take k) 0 (fun x hx => HQ.out x (List.mem_of_mem_take hx))
      rw [List.length_take, Nat.min_eq_left (Nat.le_of_lt hkl)] at hbd
      have hg1 : b.m[k]? = some b.m[k] := List.getElem?_eq_getElem hkl
      have hg2 : (stepA b o).m[k]? = some (stepM set o.c k b.m[k]) := by
        show (stepMs (choiceA b o) o.c 0 b.m)[k]? = _
        rw [HSet.out]
        exact step_get hkl
      have y1 := (Blk.cell HW.out.r1 _).trans (mds_get hg1 1 (by decide))
      have z0 := (Blk.cell HW.out.r2 _).trans (mds_get hg2 0 (by decide))
      have z1 := (Blk.cell HW.out.r2 _).trans (mds_get hg2 1 (by decide))
      have z2 := (Blk.cell HW.out.r2 _).trans (mds_get hg2 2 (by decide))
      have z3 := (Blk.cell HW.out.r2 _).trans (mds_get hg2 3 (by decide))
      have hg1l := Blk.lt HW.out.r1
      have hg2l := Blk.lt HW.out.r2
      generalize b.m[k] = x at *
      obtain ⟨xn, xq, xo, xb⟩ := x
      unfold stepM at z0 z1 z2 z3
      dsimp only [Md.cells] at y1 z0 z1 z2 z3 hqk hsn
      obtain ⟨on, hon⟩ : ∃ on, hasI set (k : Int) = on := ⟨_, rfl⟩
      rw [hon] at z0 z1 z2 z3 hsn
      generalize wkGo set o.c 0 (b.m.take k) = t0 at *
      clear hg1 hg2 hon
      cases on with
      | false =>
        rw [if_neg (by decide), Int.add_zero] at hsn
        have HSn := Lib.hid hsn
        clear hsn
        simp at z0 z1 z2 z3
        have HN := Lib.hid (HW.out.kept (W' := wr.alloc (.cells #[.string xn, .int .i64 xq, .bool false, .bool xb] 115)) bl_)
        go_wp2_with fail
        go_roundw
        case rel => exact ⟨k + 1, by omega, by go_num, by rw [HSn.out]; exact HN⟩
        case measure => simp [intOf]; omega
      | true =>
        rw [if_pos rfl] at hsn
        have HSn := Lib.hid hsn
        clear hsn
        simp at z0 z1 z2 z3 y1
        have hmb := mul_bd (s := xq + (xq + o.c)) hc (by omega)
        have hw1 : IntKind.i64.wrap (xq + (xq + o.c)) = xq + (xq + o.c) := by rw [IntKind.wrap_i64]; omega
        have hw2 : IntKind.i64.wrap (o.c * (xq + (xq + o.c))) = o.c * (xq + (xq + o.c)) := by rw [IntKind.wrap_i64]; omega
        have hw3 : IntKind.i64.wrap (s + t0 + o.c * (xq + (xq + o.c))) = s + t0 + o.c * (xq + (xq + o.c)) := by rw [IntKind.wrap_i64]; omega
        have HN0 := Lib.hid (HW.out.kept (W' := wr.alloc (.cells #[.string xn, .int .i64 (xq + o.c), .bool true, .bool xb] 115)) bl_)
        go_upto_region 5 with fail
        have bM := Blk.new wr 115 #[.string xn, .int .i64 (xq + o.c), .bool true, .bool xb]
        have hu1 := (Blk.cell HN0.out.r1 (k * 4 + 1)).trans ((Blk.cell HW.out.r1 _).symm.trans y1)
        generalize hW1 : wr.alloc _ = W1 at *
        have hsz : W1.heap.size = wr.heap.size + 1 := by rw [← hW1]; simp
        clear hW1
        have cM := bM.cell
        have lM := bM.lt
        have cO := HN0.out.ord.cell
        have lO := HN0.out.ord.lt
        have cB := HN0.out.bef.cell
        have lB := HN0.out.bef.lt
        have hne1 : wr.heap.size ≠ sb := by omega
        have hne2 : g1 ≠ sb := blk_ne HW.out.r1 HW.out.sum (by decide)
        have hg1w : g1 < W1.heap.size := by omega
        clear z0 z1 z2 z3 y1
        (refine wp_region_calm [sb] [1, 2, 3, 4, 5, 6, 7, 8, 9, 10, 11, 12] 3 (by kernel_rfl) rfl (by kernel_rfl) (by kernel_rfl) (by kernel_rfl) ?_; simp only [pickB, List.filterMap_cons, List.filterMap_nil, List.getElem?_toArray, List.getElem?_cons_zero, List.getElem?_cons_succ]; (repeat (first | ((first | (with_reducible refine quietL_plain rfl (fun K hK => ?_)) | (with_reducible refine quietL_want (by with_unfolding_all rfl) (fun K hK => ?_))); (apply Exists.intro; refine ⟨fun wx hx => ?_, ?_⟩; (· (have hcx := ifs_ex hx); simp [go_sem, *, ↓IntWalk.iteOmega] <;> (first | rfl | exact ⟨rfl, rfl⟩ | fail)); (simp only [Act.put, List.setIfInBounds_toArray, List.set_cons_zero, List.set_cons_succ]; refine hK _ ?_; clear hK K))) | ((with_reducible refine quietL_skip (by with_unfolding_all rfl) ?_); simp only [Act.put, List.setIfInBounds_toArray, List.set_cons_zero, List.set_cons_succ]))); refine quietL_nil ?_)
        refine anyB_one (i := 0) (by kernel_rfl) rfl rfl ?_
        intro w4 hb4 K hK
        have c4 := (HN0.out.kept hb4).sum.cell
        have l4 := (HN0.out.kept hb4).sum.lt
        have hs4 := hb4.size
        go_wp2
        refine ⟨Ex.of_below hb4, ?_⟩
        (refine anyB_one (i := 13) (by kernel_rfl) rfl rfl ?_; intro w5 hb5 K hK; have hs5 := hb5.size; (try simp at hs5); go_wp2; refine ⟨xs_, ?_⟩)
        refine anyB_one (i := 14) (by kernel_rfl) rfl rfl ?_
        intro w6 hb6 K hK
        have hb16 : Below W1.heap.size W1 w6 := bl_
        have hN6 := HN0.out.kept hb16
        have c6 := hN6.sum.cell
        have l6 := hN6.sum.lt
        have f6 := hN6.sum.frozen
        go_wp2
        refine ⟨Ex.set_in (by simp) (Ex.of_below hb16) _, ?_⟩
        refine anyB_end (by kernel_rfl) ?_
        intro w7 hb7
        simp only [Calm]
        have HN := Lib.hid ((hN6.put (s + t0 + o.c * (xq + (xq + o.c)))).kept hb7)
        clear hN6 c6 l6 f6 hb16 hb7 hb6 hb5 hb4 c4 l4 cM lM cO lO cB lB
        go_wp2_with fail
        go_roundw
        case rel => exact ⟨k + 1, by omega, by go_num, by rw [HSn.out, ← Int.add_assoc]; exact HN⟩
        case measure => simp [intOf]; omega
    · obtain rfl : k = n := by omega
      go_wp2_with fail
      refine bodyPost_end (results_none rfl _ _ _) rfl ?_
      have hwk : wkA b o = wkGo set o.c 0 (b.m.take k) := by
        unfold wkA
        rw [HSet.out, List.take_of_length_le (by omega)]
      rw [hwk]
      exact ⟨rfl, HW.out.sum, HW.out.ex⟩
/-- The error of orders one after the other. -/
def folE (a : Ar) (l : List Od) : Int := (runGo 0 a l).2.2
def wrkE (a : Ar) (l : List Od) : Int := or0 (ordsE a l) (folE a l)
def wrkV (a : Ar) (l : List Od) : Int := if wrkE a l = 0 then workL a l else 0
theorem fol_all {a b : Ar} {l : List Od} (h : goTo a l = some b) : folE a l = 0 := by unfold folE; rw [runGo_all h]
theorem fol_no {a b : Ar} {l : List Od} {k : Nat} (hk : k < l.length) (h : goTo a (l.take k) = some b) (h2 : stepE b l[k] ≠ 0) : folE a l = stepE b l[k] := by
  have := runGo_no (r := l.drop (k + 1)) h h2
  rw [← List.drop_eq_getElem_cons hk, List.take_append_drop] at this
  unfold folE
  rw [this]
theorem ords_zero {a : Ar} {l : List Od} (h : ordsE a l = 0) : armE a = 0 ∧ l.length ≤ 256 ∧ ∀ o ∈ l, orderE o = 0 := by
  unfold ordsE at h
  rw [firstE_cons, firstE_cons] at h
  obtain ⟨h1, h2⟩ := or0_zero h
  obtain ⟨h3, h4⟩ := or0_zero h1
  obtain ⟨h5, _⟩ := or0_zero h4
  have h6 := of_decide_eq_false (whenE_zero (by decide) h5)
  refine ⟨h3, by omega, ?_⟩
  have key : ∀ l : List Od, firstE (l.map orderE) = 0 → ∀ o ∈ l, orderE o = 0 := by
    intro l
    induction l with
    | nil => intro _ o ho; cases ho
    | cons x r ih =>
      intro h o ho
      rw [List.map_cons, firstE_cons] at h
      obtain ⟨q1, q2⟩ := or0_zero h
      rcases List.mem_cons.1 ho with rfl | ho
      · exact q1
      · exact ih q2 o ho
  exact key l h2
theorem work_each {a : Ar} {l : List Od} {n sb Bz : Nat} {w : World} (hl : a.m.length = n) (h17 : n ≤ 17) (hE : armE a = 0) (ho : ∀ o ∈ l, orderE o = 0) (hln : l.length ≤ 256) (hsb : Blk w sb 3 #[.int .i64 0]) (hz : Bz ≤ sb) : EachI Tryz.prog a l n 69 #[.pointer (some ⟨sb, 0, none⟩)] Bz w (fun k W => Blk W sb 3 #[.int .i64 (workL a (l.take k))]) := by
  refine ⟨fun W hW => hsb.kept hW, fun k W W' hG hK => hK.2 _ _ _ (by decide) hG, fun k hk W b g1 g2 hG hW hgo hs h1 h2 => ?_⟩
  obtain ⟨hEb, hS4⟩ := goTo_ok hE (fun x hx => ho x (List.mem_of_mem_take hx)) hgo
  have hbl : b.m.length = n := by rw [hS4.len, hl]
  have hbd := work_bd hE (fun x hx => ho x (List.mem_of_mem_take hx)) hgo
  have hlk : (l.take k).length ≤ 256 := by rw [List.length_take]; omega
  have hsn := workL_snoc (o := l[k]) hgo
  rw [← List.take_succ_eq_append_getElem hk] at hsn
  refine (work1_any sb g1 g2 n a b l[k] (workL a (l.take k)) W hG h1 h2 hbl h17 (fit_of hEb).q (order_zero (ho _ (List.getElem_mem hk))).2 (by omega)).mono ?_
  rintro e w' ⟨rfl, hb, hx⟩
  refine ⟨rfl, by rw [hsn]; exact hb, ⟨hx.os, hx.tape, hx.output, hx.size, fun j hj => hx.block j (by have := hG.lt; omega) (by simp; omega)⟩, fun j t cs ht hj => ?_⟩
  have hne : j ≠ sb := blk_ne hj hG (by rcases ht with rfl | rfl | rfl <;> decide)
  exact (hx.block j hj.lt (by simpa using hne)).trans hj
set_option maxRecDepth 100000 in
set_option maxHeartbeats 4000000 in
theorem Work_any (B B2 : Nat) (A A2 : Option Addr) (n c n2 c2 : Nat) (a : Ar) (l : List Od) (w : World) (hM : MsAt w B A n a.m) (hB : B ≤ w.heap.size) (hF : FitA a) (hnc : n ≤ c) (hO : Reads w B2 2 A2 n2 (ods l)) (hB2 : B2 ≤ w.heap.size) (hn2 : n2 ≤ 1000) :
    Calls Tryz.prog 20 #[.agg #[.slice A n c, .int .i64 a.lo, .int .i64 a.hi, .int .i64 a.cur, .int .i64 a.lim], .slice A2 n2 c2] w fun e w' => e = .returned (.tuple #[.int .i64 (wrkV a l), .int .i64 (wrkE a l)]) ∧ Below w.heap.size w w' := by
  have hl := (md_at hM).1
  have h17 := hF.len
  have HC := Lib.hid (fun W (hW : Below w.heap.size w W) => checkOrders_any B B2 A A2 n c n2 c2 a l W (hM.below (hW.mono hB)) (by have := hW.size; omega) hF hnc (hO.below (hW.mono hB2)) (by have := hW.size; omega) hn2)
  have HM := Lib.hid hM
  have HO := Lib.hid hO
  obtain ⟨E1, hE1⟩ : ∃ E1, ordsE a l = E1 := ⟨_, rfl⟩
  rw [hE1] at HC
  have HE1 := Lib.hid hE1
  clear hM hO hF hE1
  go_enter Tryz.func20, Tryz.ntmps20
  go_wp2_with fail
  refine (HC.out _ bl_).mono ?_
  rintro e w1 ⟨rfl, hb1⟩
  have hs1 := hb1.size
  simp at hs1
  have bA : Blk w1 w.heap.size 36 #[.slice A n c, .int .i64 a.lo, .int .i64 a.hi, .int .i64 a.cur, .int .i64 a.lim] := bk_
  have hlow : Below w.heap.size w w1 := bl_
  have HL1 := Lib.hid hlow
  have cA := bA.cell
  have lA := bA.lt
  clear hb1 hlow HC
  by_cases h1 : E1 = 0
  · subst h1
    obtain ⟨hE, hln, ho⟩ := ords_zero HE1.out
    have hal : Below w1.heap.size w1 (w1.alloc (.cells #[.int .i64 0] 3)) := bl_
    have HL2 := Lib.hid (HL1.out.trans (hal.mono (by omega)))
    have HFo := Lib.hid (follow_any B B2 w.heap.size A A2 n c n2 c2 69 #[.pointer (some ⟨w1.heap.size, 0, none⟩)] a l _ _ (HM.out.below (HL2.out.mono hB)) (by simp; omega) (by omega) hE (HO.out.below (HL2.out.mono hB2)) hB2 (by simp; omega) hn2 ho (enters_of Tryz.func69 (by kernel_rfl) rfl) (work_each (sb := w1.heap.size) hl (by omega) hE ho hln (Blk.new w1 3 #[.int .i64 0]) (by omega)))
    have HWE : Hid (wrkE a l = folE a l) := Lib.hid (by unfold wrkE or0; rw [HE1.out, if_pos rfl])
    have hss : w.heap.size ≤ w1.heap.size := by omega
    clear hal hE hln ho
    go_wp2_with fail
    refine HFo.out.mono ?_
    rintro e w3 ⟨hb3, hres⟩
    have HL3 := Lib.hid (HL2.out.trans hb3)
    have hs3 := hb3.size
    simp at hs3
    rcases hres with ⟨b, g, hgo, rfl, hg, hgl, hG⟩ | ⟨k, b, hk, hgo, hne, rfl⟩
    · have hf := fol_all hgo
      rw [List.take_of_length_le (Nat.le_refl _)] at hG
      have hwv : wrkV a l = workL a l := by unfold wrkV; rw [HWE.out, hf, if_pos rfl]
      have HV := Lib.hid hwv
      have HW0 := Lib.hid (HWE.out.trans hf)
      have cS := hG.cell
      have lS := hG.lt
      have hlw : Below w.heap.size w (w3.alloc (.cells #[.slice (some ⟨g, 0, none⟩) n n, .int .i64 a.lo, .int .i64 a.hi, .int .i64 a.cur, .int .i64 a.lim] 36)) := HL3.out.alloc (by omega) _
      have HLw := Lib.hid hlw
      clear hf hwv hgo hg hb3 hlw
      go_wp2_with fail
      go_ret2
      exact ⟨by rw [HV.out, HW0.out]; rfl, HLw.out⟩
    · have hf := fol_no hk hgo hne
      have HW0 := Lib.hid (HWE.out.trans hf)
      have HNe := Lib.hid hne
      have hlw : Below w.heap.size w (w3.alloc (.cells #[.slice none 0 0, .int .i64 0, .int .i64 0, .int .i64 0, .int .i64 0] 36)) := HL3.out.alloc (by omega) _
      have HLw := Lib.hid hlw
      clear hf hgo hb3 hlw hne
      generalize stepE b l[k] = er at *
      have hne : (er != 0) = true := by simpa using HNe.out
      go_wp2_with fail
      go_ret2
      exact ⟨by unfold wrkV; rw [HW0.out, if_neg HNe.out]; rfl, HLw.out⟩
  · have hne : (E1 != 0) = true := by simpa using h1
    have HW : Hid (wrkE a l = E1) := Lib.hid (by unfold wrkE or0; rw [HE1.out, if_neg h1])
    go_wp2_with fail
    go_ret2
    exact ⟨by unfold wrkV; rw [HW.out, if_neg h1]; rfl, HL1.out⟩
end Go.Proofs.YtafnebfchhmgcaaGreat
