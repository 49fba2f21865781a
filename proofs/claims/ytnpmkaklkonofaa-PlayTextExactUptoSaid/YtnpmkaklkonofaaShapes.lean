/- play.shapes: the table of the steps' words. -/
import Derived.Test.YtnpmkaklkonofaaEsc
import Derived.Test.YtnpmkaklkonofaaShapesL
import Derived.Laws.Tables
import Derived.Laws.CopyOwn
namespace Go.Proofs.Ytnpmkaklkonofaa.Txt
open Go.RowKit Go.Proofs.YtnpmkaklkonofaaW.PrintWords Go.Proofs.YtnpmkaklkonofaaW.PrintLast

theorem infoSh : (Try.prog.info? 61).map (·.size) = some 70 := by kernel_rfl

def strV (l : List UInt8) : Value := .string ⟨l.toArray⟩
/-- The table as a value's cells. -/
def shapeV : Array Value := (shapeT.flatMap fun p => [strV p.1, strV p.2]).toArray
theorem shapeV_size : shapeV.size = 70 := by kernel_rfl
theorem shapeV_one : shapeV.all (·.oneCell') = true := by kernel_rfl
theorem zeroSh : (Try.zeroCells61).size = 70 := by kernel_rfl

theorem wpList_build_as {P : Program} {ops : Array Oper} {rest : List Oper} {o : Oper} {a : Act} {w : World} {Q : Exit → Act → World → Prop} (hg : o.guard = none) (t : TypeId) (cs : Array Value) (parts : Array (Nat × Operand)) (ho : o.op = .build t parts)
    (hf : P.built t (parts.map fun (i, x) => (i, a.eval x)).toList = some cs)
    (h : wpList P ops Q rest (a.put o.dst (.agg cs)) w) : wpList P ops Q (o :: rest) a w :=
  wpList_build hg t parts ho (by rw [hf]; rfl) (by rw [hf]; exact h)

theorem shapeV_store (w : World) : (storeCells ⟨w.heap.size, 0, none⟩ shapeV.toList).run Try.prog (w.alloc (.cells Try.zeroCells61 61)) = .ok () ((w.alloc (.cells Try.zeroCells61 61)).setRow w.heap.size shapeV) := by
  have h := run_storeCells_from (P := Try.prog) w.heap.size 61 shapeV.toList 0 _ (w.alloc (.cells Try.zeroCells61 61)) (heap_alloc_new w _) (by rw [Array.length_toList, shapeV_size, zeroSh]) (fun v hv => (Array.all_eq_true_iff_forall_mem.1 shapeV_one) v (by simpa using hv))
  simpa using h

set_option maxHeartbeats 400000 in
set_option maxRecDepth 100000 in
theorem shapes_calls (w : World) :
    Calls Try.prog 26 #[] w fun e w' => e = .returned (.agg shapeV) ∧ Below w.heap.size w w' := by
  have hsz := shapeV_size
  have hst := shapeV_store w
  go_enter Try.func26, Try.ntmps26
  go_wp2_with (first | (refine wpList_build_as rfl 61 shapeV _ rfl (by kernel_rfl) ?_) | (refine wpList_build rfl 60 _ rfl (by kernel_rfl) ?_))
  exact bodyPost_ret (v := .agg shapeV) (results_cell_row rfl _ _ w.heap.size 61 shapeV (0, 0) _ rfl (setRow_heap _ _ _ _ _ _ (heap_alloc_new w _)) Try.underlying61 rfl (by rw [shapeV_size]; exact infoSh)) rfl ⟨rfl, below_setRow ((Below.refl _ _).alloc (Nat.le_refl _) _) (Nat.le_refl _) _⟩

end Go.Proofs.Ytnpmkaklkonofaa.Txt
