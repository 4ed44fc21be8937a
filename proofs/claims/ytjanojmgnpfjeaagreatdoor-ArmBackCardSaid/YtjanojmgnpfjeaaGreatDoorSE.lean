/- The lines of a text, each with its newline: an iterator that keeps what is left in a box. -/
import Derived.Test.YtjanojmgnpfjeaaGreatDoorSC
import Derived.Test.YtjanojmgnpfjeaaGreatDoorTC
import Derived.Shelf.RegionOpen
import Derived.Sort.CutIn
import Derived.TacticsInMore
import Derived.LoopIn
namespace Go.Proofs.YtjanojmgnpfjeaaGreatDoor
open Go.RowKit Go.Sort Go.Shelf
set_option linter.unusedSimpArgs false
set_option linter.unusedVariables false
attribute [local go_sem] cell_if frozen_if grow_cell
attribute [local go_sem] Oper.semAt_some
/-- The pieces of a text: each ends behind a newline, the last one may lack it. -/
def pcs : List UInt8 → List (List UInt8)
  | [] => []
  | b :: r => if b == 10 then [10] :: pcs r else match pcs r with
    | [] => [[b]]
    | p :: ps => (b :: p) :: ps
theorem pcs_eq {b : UInt8} (h : (b == 10) = true) (r : List UInt8) : pcs (b :: r) = [10] :: pcs r := if_pos h
theorem pcs_one {b : UInt8} (h : (b == 10) = false) {r : List UInt8} (hr : pcs r = []) : pcs (b :: r) = [[b]] := by
  show (if b == 10 then _ else _) = _
  rw [h, if_neg (by decide), hr]
theorem pcs_cons {b : UInt8} (h : (b == 10) = false) {r p : List UInt8} {ps : List (List UInt8)} (hr : pcs r = p :: ps) : pcs (b :: r) = (b :: p) :: ps := by
  show (if b == 10 then _ else _) = _
  rw [h, if_neg (by decide), hr]
theorem pcs_at : ∀ {l : List UInt8} {o : Nat}, Lib.indexByte l 10 = o → pcs l = l.take (o + 1) :: pcs (l.drop (o + 1))
  | [], o, h => by
    have := Lib.indexByte_some h
    simp at this
  | b :: r, o, h => by
    obtain ⟨h1, h2⟩ := Lib.indexByte_some h
    cases hb : (b == 10) with
    | true =>
      have : o = 0 := by
        rcases Nat.eq_zero_or_pos o with h | h
        · exact h
        · exact absurd (by rw [eq_of_beq hb]; rfl) (h2 0 h)
      subst this
      rw [pcs_eq hb, eq_of_beq hb]
      rfl
    | false =>
      cases o with
      | zero =>
        rw [List.getElem?_cons_zero] at h1
        cases h1
        cases hb
      | succ o =>
        have hr : Lib.indexByte r 10 = o := by
          have hg := Lib.indexByte_ge r 10
          have hlt : ∀ k, k < o → r[k]? ≠ some 10 := fun k hk => h2 (k + 1) (by omega)
          have hat : r[o]? = some 10 := h1
          have hn : Lib.indexByte r 10 ≠ -1 := fun e => Lib.indexByte_none e o hat
          obtain ⟨m, hm⟩ := Int.eq_ofNat_of_zero_le (show 0 ≤ Lib.indexByte r 10 by omega)
          obtain ⟨g1, g2⟩ := Lib.indexByte_some hm
          rw [hm]
          congr 1
          rcases Nat.lt_trichotomy m o with h | h | h
          · exact absurd g1 (hlt m h)
          · exact h
          · exact absurd hat (g2 o h)
        rw [pcs_cons hb (pcs_at hr)]
        rfl
theorem pcs_free : ∀ {l : List UInt8}, Lib.indexByte l 10 = -1 → l ≠ [] → pcs l = [l]
  | [], _, h => absurd rfl h
  | b :: r, h, _ => by
    have hn := Lib.indexByte_none h
    have hb : (b == 10) = false := beq_eq_false_iff_ne.2 (fun e => hn 0 (by rw [e]; rfl))
    cases hr : r with
    | nil => exact pcs_one hb rfl
    | cons x q =>
      have h2 : Lib.indexByte r 10 = -1 := by
        have hg := Lib.indexByte_ge r 10
        rcases Int.lt_or_le (Lib.indexByte r 10) 0 with h' | h'
        · omega
        · obtain ⟨m, hm⟩ := Int.eq_ofNat_of_zero_le h'
          exact absurd (Lib.indexByte_some hm).1 (hn (m + 1))
      rw [← hr]
      exact pcs_cons hb (pcs_free h2 (by rw [hr]; simp))
theorem pcs_len : ∀ l : List UInt8, (pcs l).length ≤ l.length
  | [] => Nat.le_refl _
  | b :: r => by
    have ih := pcs_len r
    cases hb : (b == 10) with
    | true => rw [pcs_eq hb]; simp; omega
    | false =>
      cases hr : pcs r with
      | nil => rw [pcs_one hb hr]; simp
      | cons p ps => rw [pcs_cons hb hr]; rw [hr] at ih; simp at ih ⊢; omega
/-- What the parts between the newlines are as pieces. -/
def pcOf : List (List UInt8) → List (List UInt8)
  | [] => []
  | [l] => if l.isEmpty then [] else [l]
  | l :: m :: r => (l ++ [10]) :: pcOf (m :: r)
theorem pcs_spl : ∀ l : List UInt8, pcs l = pcOf (spl 10 l)
  | [] => rfl
  | b :: r => by
    have ih := pcs_spl r
    cases hr : spl 10 r with
    | nil => exact absurd hr (spl_ne 10 r)
    | cons p ps =>
      rw [hr] at ih
      cases hb : (b == 10) with
      | true => rw [pcs_eq hb, spl_eq hb, hr, ih]; rfl
      | false =>
        rw [spl_cons hb hr]
        cases ps with
        | nil =>
          cases p with
          | nil => rw [pcs_one hb ih]; rfl
          | cons x q => rw [pcs_cons hb (p := x :: q) (ps := []) ih]; rfl
        | cons q qs => rw [pcs_cons hb (p := p ++ [10]) (ps := pcOf (q :: qs)) ih]; rfl
def pieces (s : ByteArray) : List ByteArray := (pcs s.data.toList).map toB
theorem pieces_at {s : ByteArray} {o : Nat} (h : Lib.indexByte s.data.toList 10 = o) : pieces s = s.extract 0 (o + 1) :: pieces (s.extract (o + 1) s.size) := by
  unfold pieces
  rw [pcs_at h, ext_take, ext_drop, toB_list, List.map_cons]
theorem pieces_free {s : ByteArray} (h : Lib.indexByte s.data.toList 10 = -1) (h0 : s.size ≠ 0) : pieces s = [s] := by
  unfold pieces
  rw [pcs_free h (fun e => h0 (by show s.data.size = 0; rw [← Array.length_toList, e]; rfl))]
  show [toB s.data.toList] = _
  rw [toB_data]
theorem pieces_nil {s : ByteArray} (h0 : s.size = 0) : pieces s = [] := by
  unfold pieces
  have : s.data.toList = [] := List.eq_nil_of_length_eq_zero (by rw [Array.length_toList]; exact h0)
  rw [this]
  rfl
theorem pieces_len (s : ByteArray) : (pieces s).length ≤ s.size := by
  unfold pieces
  rw [List.length_map]
  exact Nat.le_trans (pcs_len _) (by rw [Array.length_toList]; exact Nat.le_refl _)
theorem Lines_any (s : ByteArray) (w : World) :
    Calls Tryz.prog 83 #[.string s] w fun e w' => e = .returned (.func (.func 135) #[] #[.pointer (some ⟨w.heap.size, 0, none⟩)]) ∧ w.alloc (.cells #[.string s] 9) = w' := by
  go_enter Tryz.func83, Tryz.ntmps83
  go_wp2
  go_ret
  exact ⟨rfl, rfl⟩
/-- A piece: of a size that the walk may bear. -/
structure Pc where
  x : ByteArray
  h : x.size ≤ 90000
def pcV (x : Pc) : Array Value := #[.string x.x]
def boxLenT (g : Nat) (W : World) : Nat := match W.cell? ⟨g, 0, none⟩ with
  | some (.string r) => r.size
  | _ => 0
theorem boxLen_blk {g t : Nat} {r : ByteArray} {W : World} (h : Blk W g t #[.string r]) : boxLenT g W = r.size := by
  unfold boxLenT
  rw [h.cell]
  rfl
theorem grown_then {W W1 W2 : World} {row : Option Nat} (hg : W.grownBy W1 row) (hb : Below W1.heap.size W1 W2) : W.grownBy W2 row :=
  ⟨hb.os.trans hg.os, hb.tape.trans hg.tape, hb.output.trans hg.output, Nat.le_trans hg.size hb.size, fun k hk hn => (hb.block k (Nat.lt_of_lt_of_le hk hg.size)).trans (hg.block k hk hn)⟩
set_option maxRecDepth 100000 in
set_option maxHeartbeats 4000000 in
theorem lines_box (n g1 : Nat) (s : ByteArray) (w : World) (hn : 3 ≤ n) (hs : s.size ≤ 90000) (hp : Blk w g1 9 #[.string s]) :
    SeqBox Fence.wide n Tryz.prog 135 #[.pointer (some ⟨g1, 0, none⟩)] pcV g1 (fun xs => xs.map Pc.x = pieces s) (fun pre => ∃ r, pieces s = pre.map Pc.x ++ r) ((pieces s).length + 1) w := fun l J Jx W hW hJ hR hJ0 => by
  have b1 : Blk W g1 9 #[.string s] := hW.trans hp
  clear hp hW
  refine callsIn_of_wp Tryz.func135 rfl trivial ?_ rfl
  simp only [Tryz.ntmps135, List.size_toArray, List.length_cons, List.length_nil, Nat.reduceAdd, Nat.reduceSub, Array.replicate_succ, Array.replicate_zero, List.push_toArray, List.append_toArray, List.nil_append, List.cons_append]
  gi_wp2
  gi_loopw [3] (fun _ wr => ∃ (r : ByteArray) (pre : List Pc), Blk wr g1 9 #[.string r] ∧ r.size ≤ s.size ∧ Hid (pieces s = pre.map Pc.x ++ pieces r) ∧ J pre wr) (fun _ wr => boxLenT g1 wr)
  case atStart => exact ⟨s, [], b1, Nat.le_refl _, Lib.hid rfl, hJ0⟩
  case round =>
    obtain ⟨r, pre, bk, hrs, hpc, hJp⟩ := hrel
    have c1 := bk.cell 0
    have f1 := bk.frozen 0
    have l1 := bk.lt
    simp at c1
    have HB := Lib.hid bk
    have HM := Lib.hid (boxLen_blk bk)
    have hpl : pre.length ≤ (pieces s).length := by rw [hpc.out]; simp
    clear bk b1
    by_cases h0 : r.size = 0
    · have hE := pieces_nil h0
      have HE := Lib.hid hE
      clear hE
      have hlen : ((r.size : Nat) : Int) = 0 := by omega
      gi_wp2
      go_end0
      exact ⟨⟨_, rfl⟩, .inl ⟨pre, by rw [hpc.out, HE.out, List.append_nil], hJp⟩⟩
    · have hlen : (0 : Int) < (r.size : Int) := by omega
      have hcur : pre.length < (pieces s).length + 1 := by omega
      have h0' : 0 < r.size := by omega
      have HI := Lib.hid (IndexByte_any r 10)
      change Hid (∀ w, Calls _ _ _ _ fun e w' => e = .returned (.int .i64 (Lib.indexByte r.data.toList 10)) ∧ _) at HI
      have hg := Lib.indexByte_ge r.data.toList 10
      rcases Int.lt_or_le (Lib.indexByte r.data.toList 10) 0 with hneg | hpos
      · have ho : Lib.indexByte r.data.toList 10 = -1 := by omega
        have HP := Lib.hid (pieces_free ho h0)
        rw [ho] at HI
        clear ho hneg hg
        gi_wp2
        refine ⟨trivial, fun _ => by omega, (callsIn_wide.2 (HI.out _)).mono ?_⟩
        rintro e w1 ⟨rfl, rfl⟩
        have HB' := Lib.hid (HB.out.set_ 0 (.string ⟨#[]⟩))
        have hJ' := hJ _ _ _ _ hJp (grownBy_setCell' wr g1 (.string ⟨#[]⟩)) (fun _ e => (Option.some.inj e).symm)
        obtain ⟨fn, tmps, assign, body, hy, hR1⟩ := hR _ ⟨r, by omega⟩ _ hJ' hcur
        dsimp only [pcV] at hy
        clear hJp hJ'
        (gi_wp2; (try (refine ⟨fun _ h => (by cases h), ?_⟩; gi_wp2)); (try (refine ⟨fun _ h => (by cases h), ?_⟩; gi_wp2)))
        refine ⟨(fun _ => by omega), hR1.mono ?_⟩
        rintro e W3 (⟨rfl, hJ3, hk3⟩ | ⟨rfl, hJx3⟩)
        · have HB3 : Hid (Blk W3 g1 9 #[.string ⟨#[]⟩]) := Lib.hid (hk3.trans HB'.out)
          (gi_wp2; (try (refine ⟨fun _ h => (by cases h), ?_⟩; gi_wp2)); (try (refine ⟨fun _ h => (by cases h), ?_⟩; gi_wp2)))
          go_roundw
          case rel => exact ⟨⟨#[]⟩, _, HB3.out, Nat.zero_le _, Lib.hid (by rw [hpc.out, HP.out]; simp; rfl), hJ3⟩
          case measure => rw [HM.out, boxLen_blk HB3.out]; exact h0'
        · (gi_wp2; (try (refine ⟨fun _ h => (by cases h), ?_⟩; gi_wp2)); (try (refine ⟨fun _ h => (by cases h), ?_⟩; gi_wp2)))
          refine bodyPost_ret (results_none rfl _ _ _) rfl ?_
          exact ⟨⟨_, rfl⟩, .inr ⟨_, ⟨[], by rw [hpc.out, HP.out]; simp⟩, hJx3⟩⟩
      · obtain ⟨o, ho⟩ := Int.eq_ofNat_of_zero_le hpos
        have HP := Lib.hid (pieces_at ho)
        have hor : o < r.size := by
          have := (List.getElem?_eq_some_iff.1 (Lib.indexByte_some ho).1).1
          rwa [Array.length_toList] at this
        rw [ho] at HI
        clear ho hpos hg
        have ho2 : o + 1 ≤ r.size := hor
        have hro : r.size ≤ 100000 := by omega
        gi_wp2
        refine ⟨trivial, fun _ => by omega, (callsIn_wide.2 (HI.out _)).mono ?_⟩
        rintro e w1 ⟨rfl, rfl⟩
        have hwr : IntKind.i64.wrap ((o : Int) + 1) = (o : Int) + 1 := by rw [IntKind.wrap_i64]; omega
        have hi1 : (o : Int) + 1 ≤ (r.size : Int) := by omega
        have hi2 : ¬ (r.size : Int) < (o : Int) + 1 := by omega
        have hi3 : ¬ (o : Int) + 1 < 0 := by omega
        gi_upto_region 4 with fail
        gi_cut [3] from 12 (fun s3 wx => s3 = .string (r.extract 0 (o + 1)) ∧ wx = (wr.setCell ⟨g1, 0, none⟩ (.string (r.extract (o + 1) r.size))).drew)
        case first =>
          have mixed : Tryz.prog.follows .mixedOrders = true := by kernel_rfl
          gi_region_with_o fail
          all_goals
            gi_wp2
            gi_meet
            exact ⟨rfl, rfl⟩
        case rest =>
          obtain ⟨rfl, hwx⟩ := hcut
          have HB' : Hid (Blk wc g1 9 #[.string (r.extract (o + 1) r.size)]) := Lib.hid (by rw [hwx]; exact HB.out.set_ 0 _)
          have hJ' : J pre wc := by
            refine hJ _ _ _ _ hJp ?_ (fun _ e => (Option.some.inj e).symm)
            rw [hwx]
            exact grown_then (grownBy_setCell' wr g1 (.string (r.extract (o + 1) r.size))) ((Below.refl _ _).drew)
          clear hwx
          obtain ⟨fn, tmps, assign, body, hy, hR1⟩ := hR _ ⟨r.extract 0 (o + 1), by rw [ByteArray.size_extract]; omega⟩ _ hJ' hcur
          dsimp only [pcV] at hy
          clear hJp hJ'
          (gi_wp2; (try (refine ⟨fun _ h => (by cases h), ?_⟩; gi_wp2)); (try (refine ⟨fun _ h => (by cases h), ?_⟩; gi_wp2)))
          refine ⟨(fun _ => by omega), hR1.mono ?_⟩
          rintro e W3 (⟨rfl, hJ3, hk3⟩ | ⟨rfl, hJx3⟩)
          · have HB3 : Hid (Blk W3 g1 9 #[.string (r.extract (o + 1) r.size)]) := Lib.hid (hk3.trans HB'.out)
            (gi_wp2; (try (refine ⟨fun _ h => (by cases h), ?_⟩; gi_wp2)); (try (refine ⟨fun _ h => (by cases h), ?_⟩; gi_wp2)))
            go_roundw
            case rel => exact ⟨r.extract (o + 1) r.size, _, HB3.out, by rw [ByteArray.size_extract]; omega, Lib.hid (by rw [hpc.out, HP.out, List.map_append, List.append_assoc]; rfl), hJ3⟩
            case measure => rw [HM.out, boxLen_blk HB3.out, ByteArray.size_extract]; omega
          · (gi_wp2; (try (refine ⟨fun _ h => (by cases h), ?_⟩; gi_wp2)); (try (refine ⟨fun _ h => (by cases h), ?_⟩; gi_wp2)))
            refine bodyPost_ret (results_none rfl _ _ _) rfl ?_
            exact ⟨⟨_, rfl⟩, .inr ⟨_, ⟨pieces (r.extract (o + 1) r.size), by rw [hpc.out, HP.out, List.map_append, List.append_assoc]; rfl⟩, hJx3⟩⟩
end Go.Proofs.YtjanojmgnpfjeaaGreatDoor
