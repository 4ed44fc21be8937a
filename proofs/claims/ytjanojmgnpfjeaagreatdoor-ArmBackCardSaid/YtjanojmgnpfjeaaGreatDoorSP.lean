/- Both texts of an arm, as lines of words; in plain words. -/
import Derived.Test.YtjanojmgnpfjeaaGreatDoorSO
import Derived.Test.YtjanojmgnpfjeaaGreatDoorSL
namespace Go.Proofs.YtjanojmgnpfjeaaGreatDoor
open Go Go.RowKit Go.Sort Go.Shelf
def armB : ByteArray := ⟨#[97, 114, 109]⟩
def modB : ByteArray := ⟨#[109, 111, 100, 117, 108, 101]⟩
def headWs (a : Ar) : List ByteArray := [armB, itoB a.lo, itoB a.hi, itoB a.cur, itoB a.lim]
def modWs (x : Md) : List ByteArray := [modB, x.n, itoB x.q, stBr x]
def linesA (a : Ar) : List (List ByteArray) := headWs a :: a.m.map modWs
def printL (a : Ar) : List UInt8 := (linesA a).flatMap lineL
theorem line_head (a : Ar) : lineL (headWs a) = [97, 114, 109, 32] ++ (itoB a.lo).data.toList ++ [32] ++ (itoB a.hi).data.toList ++ [32] ++ (itoB a.cur).data.toList ++ [32] ++ (itoB a.lim).data.toList ++ [10] := by
  unfold lineL headWs
  simp only [List.map_cons, List.map_nil, join_more, Lib.join_one]
  simp [armB]
theorem line_mod (x : Md) : lineL (modWs x) = [109, 111, 100, 117, 108, 101, 32] ++ x.n.data.toList ++ [32] ++ (itoB x.q).data.toList ++ [32] ++ (stBr x).data.toList ++ [10] := by
  unfold lineL modWs
  simp only [List.map_cons, List.map_nil, join_more, Lib.join_one]
  simp [modB]
theorem data_app (a b : ByteArray) : (a ++ b).data.toList = a.data.toList ++ b.data.toList := by simp
theorem rHead_list (a : Ar) : (rHead a).data.toList = lineL (headWs a) := by
  rw [line_head]
  unfold rHead
  simp only [data_app]
theorem rAdd_list (t : ByteArray) (x : Md) : (rAdd t x).data.toList = t.data.toList ++ lineL (modWs x) := by
  rw [line_mod]
  unfold rAdd
  simp only [data_app, List.append_assoc]
theorem fold_list : ∀ (l : List Md) (t : ByteArray), (l.foldl rAdd t).data.toList = t.data.toList ++ (l.map modWs).flatMap lineL
  | [], t => by simp
  | x :: r, t => by
    show (r.foldl rAdd (rAdd t x)).data.toList = _
    rw [fold_list r, rAdd_list, List.map_cons, List.flatMap_cons, List.append_assoc]
theorem rPr_list (a : Ar) : (rPr a).data.toList = printL a := by
  unfold rPr printL linesA
  rw [fold_list, rHead_list, List.flatMap_cons]
theorem stB_eq {x : Md} (h : x.on = true → x.by_ = false) : stB x = stBr x := by
  unfold stB stBr
  cases ho : x.on with
  | true => rw [h ho]; rfl
  | false => cases x.by_ <;> rfl
theorem textB_list {x : Md} (h : x.on = true → x.by_ = false) : (textB x).data.toList = lineL (modWs x) := by
  rw [line_mod]
  unfold textB
  rw [stB_eq h]
  simp only [data_app]
theorem join_flat : ∀ l : List (List UInt8), Lib.join l [] = l.flatten
  | [] => rfl
  | [x] => by rw [Lib.join_one]; simp
  | x :: y :: r => by
    have h := join_flat (y :: r)
    have e : Lib.join (x :: y :: r) [] = x ++ Lib.join (y :: r) [] := by
      unfold Lib.join
      simp [List.intercalate]
    rw [e, h]
    rfl
theorem texts_list : ∀ {l : List Md}, (∀ x ∈ l, x.on = true → x.by_ = false) → ((l.map textB).map (·.data.toList)).flatten = (l.map modWs).flatMap lineL
  | [], _ => rfl
  | x :: r, h => by
    have ih := texts_list (l := r) (fun y hy => h y (List.mem_cons_of_mem _ hy))
    rw [List.map_cons, List.map_cons, List.flatten_cons, ih, textB_list (h x (List.mem_cons_self ..)), List.map_cons, List.flatMap_cons]
theorem printB_list {a : Ar} (h : ∀ x ∈ a.m, x.on = true → x.by_ = false) : (printB a).data.toList = printL a := by
  unfold printB printL linesA
  rw [data_app, data_app, List.flatMap_cons]
  have e1 : (jB (a.m.map textB) []).data.toList = (a.m.map modWs).flatMap lineL := by
    unfold jB
    rw [join_flat, texts_list h]
  have e2 : (jB (headW a) [32]).data.toList ++ (⟨#[10]⟩ : ByteArray).data.toList = lineL (headWs a) := rfl
  rw [e1, e2]
theorem print_eq {a : Ar} (h : ∀ x ∈ a.m, x.on = true → x.by_ = false) : printB a = toB (printL a) ∧ rPr a = toB (printL a) := by
  constructor
  · rw [← printB_list h, toB_data]
  · rw [← rPr_list, toB_data]
end Go.Proofs.YtjanojmgnpfjeaaGreatDoor
