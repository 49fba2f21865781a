/- text.tabled: which place of an alphabet a byte has. -/
import Derived.Test.YtnpmkaklkonofaaEsc
import Derived.Laws.Tables
import Derived.Laws.CopyOwn
namespace Go.Proofs.Ytnpmkaklkonofaa.Txt
open Go.RowKit Go.Proofs.YtnpmkaklkonofaaW.PrintWords Go.Proofs.YtnpmkaklkonofaaW.PrintLast

/-- The table behind the first k bytes of an alphabet. -/
def tabN (l : List UInt8) : Nat → List Int
  | 0 => List.replicate 256 0
  | k + 1 => (tabN l k).set (l.getD k 0).toNat (((k : Int) + 1) % 256)
theorem tabN_length (l : List UInt8) : ∀ k, (tabN l k).length = 256
  | 0 => List.length_replicate
  | k + 1 => by rw [tabN, List.length_set, tabN_length l k]
/-- The table as a value's cells. -/
def tabV (l : List UInt8) (k : Nat) : Array Value := (nums .u8 (tabN l k)).toArray
theorem tabV_size (l : List UInt8) (k : Nat) : (tabV l k).size = 256 := by simp [tabV, nums_length, tabN_length]
theorem tabV_succ (l : List UInt8) (k : Nat) : tabV l (k + 1) = (tabV l k).setIfInBounds (l.getD k 0).toNat (.int .u8 (((k : Int) + 1) % 256)) := by
  apply Array.toList_inj.1
  simp [tabV, nums, tabN, List.map_set]
theorem tabV_one (l : List UInt8) (k : Nat) : (tabV l k).all (·.oneCell') = true := by
  rw [Array.all_eq_true_iff_forall_mem]
  intro v hv
  simp only [tabV, nums, List.mem_toArray, List.mem_map] at hv
  obtain ⟨n, _, rfl⟩ := hv
  rfl
theorem tabV_zero : ∀ l, Try.zeroCells130 = tabV l 0 := fun l => by
  have : Try.zeroCells130 = (nums .u8 (List.replicate 256 0)).toArray := by kernel_rfl
  exact this

theorem info130 : (Try.prog.info? 130).map (·.size) = some 256 := by kernel_rfl

set_option maxHeartbeats 400000 in
set_option maxRecDepth 100000 in
theorem tabled_calls (s : ByteArray) (w : World) (hs : s.size ≤ 140737488351232) :
    Calls Try.prog 80 #[.string s] w fun e w' => e = .returned (.agg (tabV s.data.toList s.size)) ∧ Below w.heap.size w w' := by
  go_enter Try.func80, Try.ntmps80
  go_wp2
  go_loopw [4] (fun v4 wr => ∃ k : Nat, v4 = .int .i64 k ∧ k ≤ s.size ∧ Hid (wr.heap[w.heap.size]? = some (.cells Try.zeroCells130 130 (0, 0)) ∧ wr.heap[w.heap.size + 1]? = some (.cells (tabV s.data.toList k) 130 (0, 0)) ∧ Below w.heap.size w wr)) (fun v4 _ => s.size - (intOf v4).toNat)
  case atStart => exact ⟨0, rfl, by omega, heap_alloc2_old w _ _, by rw [← tabV_zero]; exact heap_alloc2_new w _ _, ((Below.refl _ _).alloc (Nat.le_refl _) _).alloc (by simp) _⟩
  case round =>
    obtain ⟨k, rfl, hk, HI⟩ := hrel
    by_cases hlt : k < s.size
    · obtain ⟨h1, h2, h3⟩ := HI.out
      have hb : s[k].toNat < 256 := s[k].toNat_lt
      have hc : wr.cell? ⟨w.heap.size + 1, s[k].toNat, none⟩ = some ((tabV s.data.toList k)[s[k].toNat]'(by rw [tabV_size]; exact hb)) := by
        rw [cell_of_row wr _ _ _ _ _ h2, Array.getElem?_eq_getElem]
      have hf : wr.frozen? ⟨w.heap.size + 1, s[k].toNat, none⟩ = false := frozen_of_row wr _ _ _ _ h2
      have hn : Hid ((wr.setCell ⟨w.heap.size + 1, s[k].toNat, none⟩ (.int .u8 (((k : Int) + 1) % 256))).heap[w.heap.size]? = some (.cells Try.zeroCells130 130 (0, 0)) ∧ (wr.setCell ⟨w.heap.size + 1, s[k].toNat, none⟩ (.int .u8 (((k : Int) + 1) % 256))).heap[w.heap.size + 1]? = some (.cells (tabV s.data.toList (k + 1)) 130 (0, 0)) ∧ Below w.heap.size w (wr.setCell ⟨w.heap.size + 1, s[k].toNat, none⟩ (.int .u8 (((k : Int) + 1) % 256)))) := by
        have hg : s.data.toList.getD k 0 = s[k] := by
          rw [List.getD_eq_getElem?_getD, List.getElem?_eq_getElem (by rw [dsize]; exact hlt)]; rfl
        refine ⟨?_, ?_, h3.setCell (by simp) _⟩
        · rw [heap_setCell_other _ _ _ _ (by simp)]; exact h1
        · rw [setCell_eq_setRow _ _ _ _ _ _ _ h2, setRow_heap _ _ _ _ _ _ h2, tabV_succ, hg]
      clear h1 h2 h3 HI
      go_wp2
      go_roundw
      case rel => exact ⟨k + 1, by go_num, by omega, hn⟩
      case measure => simp [intOf]; omega
    · obtain rfl : k = s.size := by omega
      obtain ⟨h1, h2, h3⟩ := HI.out
      have H1 := Lib.hid h1
      have H2 := Lib.hid h2
      have H3 := Lib.hid h3
      clear h1 h2 h3 HI
      go_wp2_with (first | (refine wpList_load_row rfl 130 (.tmp 3) rfl _ rfl 130 (tabV s.data.toList s.size) (0, 0) _ H2.out Try.underlying130 rfl (by rw [tabV_size]; exact info130) ?_) | (refine wpList_store_row rfl 130 (.tmp 2) (.tmp 18) rfl _ (tabV s.data.toList s.size) rfl rfl 130 _ H1.out (by rw [tabV_size]; exact info130) (by rw [tabV_size]; kernel_rfl) (tabV_one _ _) ?_))
      exact bodyPost_ret (v := .agg (tabV s.data.toList s.size)) (results_cell_row rfl _ _ w.heap.size 130 (tabV s.data.toList s.size) (0, 0) _ rfl (setRow_heap _ _ _ _ _ _ H1.out) Try.underlying130 rfl (by rw [tabV_size]; exact info130)) rfl ⟨rfl, below_setRow H3.out (Nat.le_refl _) _⟩

end Go.Proofs.Ytnpmkaklkonofaa.Txt
