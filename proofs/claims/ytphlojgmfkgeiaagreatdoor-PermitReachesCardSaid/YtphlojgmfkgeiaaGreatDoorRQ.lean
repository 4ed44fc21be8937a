/- Reached states, orders and barriers: what the law PermitReaches asks; in plain words. -/
import Derived.Test.YtphlojgmfkgeiaaGreatDoorRP
import Derived.Test.YtphlojgmfkgeiaaGreatDoorZR
import Derived.Test.YtphlojgmfkgeiaaGreatDoorAP
namespace Go.Proofs.YtphlojgmfkgeiaaGreatDoor
theorem with_reach {y : Yd} (h : yardE y = 0) {s : Int} (hs : s ∈ reachB y) : withE y s = 0 := by
  have h1 := reach_rng hs
  have h2 := (yardE_zero.1 (reach_sound h s hs)).2
  have e : stE y.w.length s = 0 := by unfold stE; rw [decide_eq_true h1]; rfl
  unfold withE
  rw [first2_or, h, e, h2]
  rfl
/-- The moves of a run, by names. -/
theorem ordGo_run {y : Yd} (h : yardE y = 0) (gk gs : ByteArray) : ∀ (ms : List Int) (s t : Int), s ∈ reachB y → runS y s ms = some t → ordGo gk gs (y.at s) (ms.map (swNm y)) = whenE (!holdsF y gk gs t) 32
  | [], s, t, _, hr => by
    have : s = t := by simpa [runS] using hr
    subst this
    rfl
  | i :: r, s, t, hs, hr => by
    unfold runS at hr
    split at hr
    · rename_i hc
      rw [Bool.and_eq_true, decide_eq_true_eq] at hc
      obtain ⟨⟨i0, i1⟩, hf⟩ := hc
      have hi : i.toNat < y.w.length := by omega
      have hn : swNm y i = y.w[i.toNat].n := by unfold swNm; rw [List.getElem?_eq_getElem hi]; rfl
      obtain ⟨m1, m2⟩ := move_at h hs hi
      rw [hf, if_pos rfl, moveE_R (reach_sound h s hs)] at m1
      rw [List.map_cons, hn, ordGo_ok m1, m2, ← at_next]
      exact ordGo_run h gk gs r _ t (free_next hs hi hf) hr
    · cases hr
theorem pow_len {y : Yd} (h8 : y.w.length ≤ 8) : 2 ^ y.w.length ≤ 2 ^ 8 := Nat.pow_le_pow_right (by decide) h8
theorem order_chk {y : Yd} {gk gs : ByteArray} (h : goalE y gk gs = 0) {ms : List Int} {t : Int} (hr : runS y (y0 y) ms = some t) (hl : ms.length < 2 ^ y.w.length) : or0 (goalE y gk gs) (ordCE y gk gs (ms.map (swNm y))) = whenE (!holdsF y gk gs t) 32 := by
  have h0 := (goalE_zero h).1
  have hp := pow_len (yard_ok h0).1.w8
  have e := ordGo_run h0 gk gs ms _ t (y0_reach y) hr
  rw [y0_at] at e
  unfold ordCE
  rw [h, e, List.length_map, decide_eq_false (by omega)]
  rfl
/-- Where there is an order. -/
theorem ord_facts {y : Yd} {gk gs : ByteArray} (h : goalE y gk gs = 0) (ho : orderE y gk gs = 0) :
    barrE y gk gs = 24 ∧ (orderL y gk gs).length < (reachL y).length ∧ or0 (goalE y gk gs) (ordCE y gk gs (orderL y gk gs)) = 0 ∧
    (0 < (orderL y gk gs).length → or0 (goalE y gk gs) (ordCE y gk gs ((orderL y gk gs).take ((orderL y gk gs).length - 1))) = 32) ∧ barrCE y gk gs (reachL y) = 19 := by
  unfold orderE at ho
  rw [h] at ho
  cases hs : (searchL y (holdsF y gk gs)).2 with
  | none => rw [hs] at ho; cases ho
  | some p =>
    have hi := search_iff y (holdsF y gk gs)
    rw [hs] at hi
    obtain ⟨r1, r2, r3, r4⟩ := search_some hs
    have e : orderL y gk gs = p.m.map (swNm y) := by unfold orderL; rw [hs]
    refine ⟨by unfold barrE; rw [h, hs]; rfl, by rw [e, List.length_map]; exact way_short hs, by rw [e, order_chk h r1 r3, r2]; rfl, fun hpos => ?_, by rw [barr_reach h, ← hi]; rfl⟩
    rw [e, List.length_map] at hpos
    rw [e, List.length_map, ← List.map_take]
    have hne : p.m ≠ [] := by intro h0; rw [h0] at hpos; exact absurd hpos (by decide)
    have hd := List.dropLast_concat_getLast hne
    rw [← List.dropLast_eq_take]
    have hr := r1
    rw [← hd, runS_snoc] at hr
    cases ht : runS y (y0 y) p.m.dropLast with
    | none => rw [ht] at hr; cases hr
    | some t =>
      rw [order_chk h ht (by rw [List.length_dropLast]; omega)]
      cases hf : holdsF y gk gs t with
      | false => rfl
      | true =>
        have := (r4 _ _ ht hf).len
        rw [List.length_dropLast] at this
        omega
/-- Where there is none. -/
theorem no_facts {y : Yd} {gk gs : ByteArray} (h : goalE y gk gs = 0) (ho : orderE y gk gs ≠ 0) :
    orderE y gk gs = 18 ∧ barrE y gk gs = 0 ∧ barrL y gk gs = reachL y ∧ barrCE y gk gs (reachL y) = 0 := by
  unfold orderE at ho ⊢
  rw [h] at ho ⊢
  cases hs : (searchL y (holdsF y gk gs)).2 with
  | some p => rw [hs] at ho; exact absurd rfl ho
  | none =>
    have hi := search_iff y (holdsF y gk gs)
    rw [hs] at hi
    exact ⟨rfl, by unfold barrE; rw [h, hs]; rfl, search_barr hs, by rw [barr_reach h, ← hi]; rfl⟩
theorem goal_zero {y : Yd} {gk gs : ByteArray} (h : yardE y = 0) (h2 : firstE [whenE (!goalB gk) 13, whenE (decide (secAtB y gs < 0)) 10] = 0) : goalE y gk gs = 0 := by
  unfold goalE
  rw [firstE_cons, h, h2]
  rfl
/-- Reached states, one after the other. -/
theorem reach_nth {y : Yd} (h : yardE y = 0) {i : Nat} (hi : i < (reachL y).length) : (reachL y)[i] ∈ reachB y ∧ 0 ≤ (reachL y)[i] ∧ (reachL y)[i] < 2 ^ y.w.length ∧ withE y (reachL y)[i] = 0 := by
  have hm := mem_reachL.1 (List.getElem_mem hi)
  exact ⟨hm, (reach_rng hm).1, (reach_rng hm).2, with_reach h hm⟩
theorem reach_next {y : Yd} {i : Nat} (h0 : 0 < i) (hi : i < (reachL y).length) : (reachL y)[i - 1] < (reachL y)[i] :=
  List.pairwise_iff_getElem.1 (reachL_sorted y) (i - 1) i (by omega) hi (by omega)
theorem fits_at {y : Yd} (h : Fits y) (s : Int) : Fits (y.at s) :=
  ⟨h.s9, by rw [at_len]; exact h.w9, h.p9, h.sn, fun x hx => by
    obtain ⟨j, hj, rfl⟩ := List.getElem_of_mem hx
    have hj' : j < y.w.length := by rwa [at_len] at hj
    rw [((base_get (z := y.at s) (y := y) (withL_base _ _)).2 j hj hj').1]
    exact h.wn _ (List.getElem_mem hj'), h.pn⟩
theorem grantY_addP (y : Yd) (nm sc : ByteArray) : grantY y nm sc = addP y ⟨nm, secAtB y sc⟩ := rfl
theorem state_here {y : Yd} {s : Int} (hs : s ∈ reachB y) : stUp (y.at s).w (y.at s).w.length = s := state_at hs
def olD (y : Yd) (gk gs : ByteArray) : List ByteArray := resW (orderE y gk gs) (orderL y gk gs)
def blD (y : Yd) (gk gs : ByteArray) : List Int := resI (barrE y gk gs) (barrL y gk gs)
theorem ob_facts {y : Yd} {gk gs : ByteArray} (h : goalE y gk gs = 0) :
    (orderE y gk gs = 0 ∧ barrE y gk gs = 24 ∧ (olD y gk gs).length < (reachL y).length ∧ or0 (goalE y gk gs) (ordCE y gk gs (olD y gk gs)) = 0 ∧
      (0 < (olD y gk gs).length → or0 (goalE y gk gs) (ordCE y gk gs ((olD y gk gs).take ((olD y gk gs).length - 1))) = 32) ∧ barrCE y gk gs (reachL y) = 19) ∨
    (orderE y gk gs = 18 ∧ barrE y gk gs = 0 ∧ blD y gk gs = reachL y ∧ barrCE y gk gs (reachL y) = 0) := by
  by_cases ho : orderE y gk gs = 0
  · left
    obtain ⟨a, b, c, d, e⟩ := ord_facts h ho
    have e0 : olD y gk gs = orderL y gk gs := by unfold olD resW; rw [if_pos ho]
    rw [e0]
    exact ⟨ho, a, b, c, d, e⟩
  · right
    obtain ⟨a, b, c, d⟩ := no_facts h ho
    exact ⟨a, b, by unfold blD resI; rw [if_pos b, c], d⟩
theorem rd_take {w : Go.World} {B n m : Nat} {A : Option Go.Addr} {xs : List Go.Value} (h : Reads w B 1 A n xs) (hm : m ≤ n) : Reads w B 1 A m (xs.take m) := by
  have hl := h.1
  refine ⟨by rw [List.length_take]; omega, fun h0 => ?_⟩
  obtain ⟨b, o, e, hb, hc⟩ := h.2 (by omega)
  refine ⟨b, o, e, hb, fun j u hu => hc j u ?_⟩
  rw [List.getElem?_take] at hu
  split at hu
  · exact hu
  · cases hu
theorem grant_more {y : Yd} {nm sc : ByteArray} (hF : Fits y) (hn : nm.size ≤ Go.maxLen) (h : grantE y nm sc = 0) : Fits (grantY y nm sc) ∧ yardE (grantY y nm sc) = 0 ∧ (reachL (grantY y nm sc)).length ≤ (reachL y).length ∧ ∀ s ∈ reachL (grantY y nm sc), hasI (reachL y) s = true := by
  obtain ⟨_, h2, _⟩ := grant_ok h
  obtain ⟨r1, r2⟩ := reachL_add (y := y) (x := ⟨nm, secAtB y sc⟩)
  exact ⟨fits_grant hF hn (by have := (yard_ok h2).1.p8; omega), h2, r2, fun s hs => (hasI_iff _ _).2 (r1 s hs)⟩
open Go.RowKit Go.Sort Go.Shelf
/-- What the law holds from the reached states on. -/
structure ReK (w : World) (y : Yd) (A0 A1 A2 : Option Addr) (n0 n1 n2 c0 c1 c2 : Nat) (gk gs : ByteArray) (A7 : Option Addr) (W : World) : Prop where
  rd : Reads W W.heap.size 1 A7 (reachL y).length ((reachL y).map (.int .i64))
  box : Blk W w.heap.size 26 #[.slice A0 n0 c0, .slice A1 n1 c1, .slice A2 n2 c2]
  gol : Blk W (w.heap.size + 1) 28 #[.string gk, .string gs]
  low : Below w.heap.size w W
theorem ReK.kept {w : World} {y : Yd} {A0 A1 A2 : Option Addr} {n0 n1 n2 c0 c1 c2 : Nat} {gk gs : ByteArray} {A7 : Option Addr} {W W' : World} (h : ReK w y A0 A1 A2 n0 n1 n2 c0 c1 c2 gk gs A7 W) (hb : Below W.heap.size W W') : ReK w y A0 A1 A2 n0 n1 n2 c0 c1 c2 gk gs A7 W' :=
  ⟨rd_kept h.rd hb, h.box.kept hb, h.gol.kept hb, h.low.trans (hb.mono h.low.size)⟩
end Go.Proofs.YtphlojgmfkgeiaaGreatDoor
