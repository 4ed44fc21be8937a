/- Rows of the reference: a row with what lies behind it; modules put into it. -/
import Derived.Test.YtjanojmgnpfjeaaGreatDoorEB
import Derived.Test.YtjanojmgnpfjeaaGreatDoorQl
import Derived.Test.YtjanojmgnpfjeaaGreatDoorQd
namespace Go.Proofs.YtjanojmgnpfjeaaGreatDoor
open Go Go.RowKit Go.Sort Go.Shelf
theorem own_rest {w : World} {base size g l cap : Nat} {e : TypeId} {xs : List Value} (h : Own w base e size g l cap xs) : ∃ rest, Blk w g e (xs ++ rest).toArray := by
  rcases h.2 with ⟨h0, _⟩ | ⟨g', cap', cur, hv, _, hg, _, _, _, ht⟩
  · cases h0
  · cases hv
    refine ⟨cur.toList.drop (l * size), ?_⟩
    rw [← ht, List.take_append_drop]
    show w.heap[g]? = some (Obj.cells cur.toList.toArray e)
    rw [Array.toArray_toList]
    exact hg
theorem mdr_get {l : List Md} {rest : List Value} {k : Nat} {x : Md} (h : l[k]? = some x) (j : Nat) (hj : j < 4) : (mds l ++ rest).toArray[k * 4 + j]? = x.cells[j]? := by
  have hk : k < l.length := (List.getElem?_eq_some_iff.1 h).1
  have hlen : (mds l).length = l.length * 4 := flat_len (f := Md.cells) (m := 4) (fun _ => rfl) l
  have h2 := mds_get h j hj
  rw [List.getElem?_toArray] at h2 ⊢
  rw [List.getElem?_append_left (by omega)]
  exact h2
theorem mdr_set {l : List Md} {rest : List Value} {k : Nat} {x x' : Md} {j : Nat} {u : Value} (h : l[k]? = some x) (hj : j < 4) (hx : x'.cells = x.cells.set j u) : (mds l ++ rest).toArray.setIfInBounds (k * 4 + j) u = (mds (l.set k x') ++ rest).toArray := by
  have hk : k < l.length := (List.getElem?_eq_some_iff.1 h).1
  have hlen : (mds l).length = l.length * 4 := flat_len (f := Md.cells) (m := 4) (fun _ => rfl) l
  rw [List.setIfInBounds_toArray, List.set_append_left _ _ (by omega)]
  congr 2
  exact flat_set (f := Md.cells) (m := 4) (fun _ => rfl) hj hx l k h
theorem mdr_at {w : World} {g : Nat} {t : TypeId} {l : List Md} {rest : List Value} (h : Blk w g t (mds l ++ rest).toArray) : MsAt w w.heap.size (some ⟨g, 0, none⟩) l.length l :=
  (Reads.blk_at (pre := []) (off := 0) h rfl rfl (flat_len (f := Md.cells) (m := 4) (fun _ => rfl) l)).more h.lt
theorem mdr_cells {w : World} {g : Nat} {t : TypeId} {l : List Md} {rest : List Value} (h : Blk w g t (mds l ++ rest).toArray) {k : Nat} {x : Md} (hx : l[k]? = some x) : w.cell? ⟨g, k * 4, none⟩ = some (.string x.n) ∧ w.cell? ⟨g, k * 4 + 1, none⟩ = some (.int .i64 x.q) ∧ w.cell? ⟨g, k * 4 + 2, none⟩ = some (.bool x.on) ∧ w.cell? ⟨g, k * 4 + 3, none⟩ = some (.bool x.by_) :=
  ⟨(h.cell _).trans (mdr_get hx 0 (by decide)), (h.cell _).trans (mdr_get hx 1 (by decide)), (h.cell _).trans (mdr_get hx 2 (by decide)), (h.cell _).trans (mdr_get hx 3 (by decide))⟩
/-- The mirrored modules when k of them are done. -/
def mirK (s : Int) (l : List Md) (k : Nat) : List Md := (l.map (mirM s)).take k ++ l.drop k
theorem mirK_len (s : Int) (l : List Md) (k : Nat) : (mirK s l k).length = l.length := by
  unfold mirK
  rw [List.length_append, List.length_take, List.length_drop, List.length_map]
  omega
theorem mirK_zero (s : Int) (l : List Md) : mirK s l 0 = l := by simp [mirK]
theorem mirK_all (s : Int) (l : List Md) : mirK s l l.length = l.map (mirM s) := by
  unfold mirK
  rw [List.drop_length, List.append_nil, List.take_of_length_le (by rw [List.length_map]; exact Nat.le_refl _)]
theorem mirK_at {s : Int} {l : List Md} {k : Nat} (hk : k < l.length) : (mirK s l k)[k]? = some l[k] := by
  unfold mirK
  have : ((l.map (mirM s)).take k).length = k := by rw [List.length_take, List.length_map]; omega
  rw [List.getElem?_append_right (by omega), this, Nat.sub_self, List.getElem?_drop, Nat.add_zero, List.getElem?_eq_getElem hk]
theorem mirK_succ {s : Int} {l : List Md} {k : Nat} (hk : k < l.length) : (mirK s l k).set k (mirM s l[k]) = mirK s l (k + 1) := by
  unfold mirK
  have e1 : ((l.map (mirM s)).take k).length = k := by rw [List.length_take, List.length_map]; omega
  have hk' : k < (l.map (mirM s)).length := by rw [List.length_map]; exact hk
  have e2 : (l.map (mirM s))[k] = mirM s l[k] := by simp
  rw [List.set_append_right _ _ (by omega), e1, Nat.sub_self, List.drop_eq_getElem_cons hk, List.set_cons_zero, List.take_succ_eq_append_getElem hk', e2]
  simp
end Go.Proofs.YtjanojmgnpfjeaaGreatDoor
