/- text.Unescape reads a word. -/
import Derived.Test.YtnpmkaklkonofaaUndec
import Derived.Test.YtnpmkaklkonofaaTab
import Derived.Test.YtnpmkaklkonofaaUnescL
namespace Go.Proofs.Ytnpmkaklkonofaa.Txt
open Go.RowKit Go.Proofs.YtnpmkaklkonofaaW.PrintWords Go.Proofs.YtnpmkaklkonofaaW.PrintLast

def bigL : List UInt8 := [48, 49, 50, 51, 52, 53, 54, 55, 56, 57, 65, 66, 67, 68, 69, 70]

set_option maxRecDepth 100000 in
theorem tab_big : ∀ c : UInt8, (tabV bigL 16)[c.toNat]? = some (.int .u8 (hexP c : Int)) := by
  have key : ∀ m : Fin 256, (tabN bigL 16)[m.val]? = some (hexP (UInt8.ofNat m.val) : Int) := by decide +kernel
  intro c
  have h := key ⟨c.toNat, c.toNat_lt⟩
  have e : UInt8.ofNat c.toNat = c := by simp
  rw [e] at h
  unfold tabV nums
  rw [List.getElem?_toArray, List.getElem?_map, h]
  rfl

theorem or_hex (x y : Nat) (h1 : 1 ≤ x) (hx : x ≤ 16) (h2 : 1 ≤ y) (hy : y ≤ 16) : bits .or .u8 (((x : Int) - 1) * 16) ((y : Int) - 1) = (((x - 1) * 16 + (y - 1) : Nat) : Int) := by
  have key : ∀ a b : Fin 16, bits .or .u8 ((a.val : Int) * 16) (b.val : Int) = ((a.val * 16 + b.val : Nat) : Int) := by decide +kernel
  have h := key ⟨x - 1, by omega⟩ ⟨y - 1, by omega⟩
  rw [show (x : Int) - 1 = ((x - 1 : Nat) : Int) by omega, show (y : Int) - 1 = ((y - 1 : Nat) : Int) by omega]
  exact h

/-- What the loop knows of the world: the table in block T, the bytes so far in a row of the call's own. -/
structure UState (B T : Nat) (acc : List UInt8) (v : Value) (w wr : World) : Prop where
  base : B ≤ T
  table : wr.heap[T]? = some (.cells (tabV bigL 16) 130 (0, 0))
  own : wr.ownsRow (T + 1) 5 1 v (bytesI acc).length (nums .u8 (bytesI acc))
  below : Below B w wr

theorem UState.cell {B T : Nat} {acc : List UInt8} {v : Value} {w wr : World} (h : UState B T acc v w wr) (c : UInt8) : wr.cell? ⟨T, c.toNat, none⟩ = some (.int .u8 (hexP c : Int)) := by
  rw [cell_of_row wr _ _ _ _ _ h.table, tab_big]
theorem UState.grow {B T : Nat} {acc : List UInt8} {v : Value} {w wr w1 : World} (h : UState B T acc v w wr) {c : UInt8} {v1 : Value}
    (ho : w1.ownsRow (T + 1) 5 1 v1 (bytesI acc ++ [(c.toNat : Int)]).length (nums .u8 (bytesI acc ++ [(c.toNat : Int)]))) (hg : wr.grownBy w1 v.ownBlock) : UState B T (acc ++ [c]) v1 w w1 := by
  have hT := lt_of_block h.table
  have hB := h.base
  refine ⟨h.base, (hg.block T hT (fun e => by have := own_base h.own T e.symm; omega)).trans h.table, by rw [bytesI_append]; exact ho, h.below.grown hg (by omega) (fun k hk => by have := own_base h.own k hk; omega)⟩

set_option maxHeartbeats 1000000 in
set_option maxRecDepth 100000 in
theorem unesc_calls (s : ByteArray) (w : World) (hs : s.size ≤ 35184372088832) :
    Calls Try.prog 64 #[.string s] w fun e w' => e = .returned (.tuple #[.string (unesc s).1, .int .i64 (unesc s).2]) ∧ Below w.heap.size w w' := by
  by_cases h0 : s = ⟨#[37]⟩
  · have hb := Lib.hid unesc_pct
    subst h0
    go_enter Try.func64, Try.ntmps64
    go_wp2
    go_ret2
    exact ⟨by rw [hb.out]; rfl, Below.refl _ _⟩
  have g0 : (s.toList == [37]) = false := by have := beq_no h0; rwa [ByteArray.toList_eq ⟨#[37]⟩] at this
  have hT : tabV (⟨#[48, 49, 50, 51, 52, 53, 54, 55, 56, 57, 65, 66, 67, 68, 69, 70]⟩ : ByteArray).data.toList (⟨#[48, 49, 50, 51, 52, 53, 54, 55, 56, 57, 65, 66, 67, 68, 69, 70]⟩ : ByteArray).size = tabV bigL 16 := rfl
  go_enter Try.func64, Try.ntmps64
  go_wp2_with fail
  refine (tabled_calls ⟨#[48, 49, 50, 51, 52, 53, 54, 55, 56, 57, 65, 66, 67, 68, 69, 70]⟩ _ (by decide)).mono ?_
  rintro e w1 ⟨rfl, hb1⟩
  rw [hT]
  have HT := Lib.hid tab_big
  have HB1 := Lib.hid hb1
  clear hT hb1
  go_wp2_with (refine wpList_store_row rfl 130 (.tmp 4) (.tmp 10) rfl _ (tabV bigL 16) rfl rfl 130 _ (heap_alloc_new w1 _) (by rw [tabV_size]; exact info130) (by rw [tabV_size]; kernel_rfl) (tabV_one _ _) ?_)
  obtain ⟨w2, hw2, hr2, hB2⟩ : ∃ w2, (w1.alloc (.cells Try.zeroCells130 130)).setRow w1.heap.size (tabV bigL 16) = w2 ∧ w2.heap[w1.heap.size]? = some (.cells (tabV bigL 16) 130 (0, 0)) ∧ Below w.heap.size w w2 := ⟨_, rfl, setRow_heap _ _ _ _ _ _ (heap_alloc_new w1 _), below_setRow ((HB1.out).alloc HB1.out.size _) HB1.out.size _⟩
  rw [hw2]
  have HR2 := Lib.hid hr2
  have HB2 := Lib.hid hB2
  clear hr2 hB2 hw2
  have HS0 : Hid (UState w.heap.size w1.heap.size [] (.slice none 0 0) w w2) := ⟨HB1.out.size, HR2.out, own_nil _ _ _ _, HB2.out⟩
  clear HR2 HB2 HB1
  generalize w1.heap.size = T at *
  have hsl := dsize s
  have hget : ∀ j (hj : j < s.size), s.data.toList[j]'(by rw [dsize]; exact hj) = s[j] := fun j hj => rfl
  have HG := Lib.hid hget
  have HL := Lib.hid hsl
  clear hget hsl
  go_loopw [5, 6] (fun v5 v6 wr => ∃ (k : Nat) (acc : List UInt8), v6 = .int .i64 k ∧ k ≤ s.size ∧ acc.length ≤ k ∧ Hid (UnescAt s.data.toList k acc) ∧ Hid (UState w.heap.size T acc v5 w wr)) (fun _ v6 _ => s.size - (intOf v6).toNat)
  case atStart => exact ⟨0, [], rfl, by omega, by simp, UnescAt.start _, HS0⟩
  case round =>
    clear HS0
    obtain ⟨k, acc, rfl, hk, hacc, HU, HS⟩ := hrel
    obtain ⟨n5, A5, c5, rfl⟩ : ∃ n A c, u5 = Value.slice A n c := ⟨_, own_slice HS.out.own⟩
    have hba : (bytesI acc).length ≤ k := by rw [bytesI_length]; exact hacc
    by_cases hlt : k < s.size
    · by_cases hc : s[k] = 37
      · have g1 : ((s[k].toNat : Int) != 37) = false := by rw [hc]; rfl
        by_cases hsh : s.size ≤ k + 2
        · have HN := Lib.hid (unesc_none h0 (HU.out.none_short (by rw [HL.out]; exact hlt) (by rw [HG.out k hlt]; exact hc) (by rw [HL.out]; exact hsh)))
          have g2 : decide ((k : Int) + 2 ≥ (s.size : Int)) = true := decide_eq_true (by omega)
          clear hc
          go_wp2
          go_ret2
          exact ⟨by rw [HN.out]; rfl, HS.out.below⟩
        · have g2 : decide ((k : Int) + 2 ≥ (s.size : Int)) = false := decide_eq_false (by omega)
          have hk1 : k + 1 < s.size := by omega
          have hk2 : k + 2 < s.size := by omega
          have c1 := HS.out.cell s[k + 1]
          have c2 := HS.out.cell s[k + 2]
          have hb1 : s[k + 1].toNat < 256 := s[k + 1].toNat_lt
          have hb2 : s[k + 2].toNat < 256 := s[k + 2].toNat_lt
          by_cases hp1 : hexP s[k + 1] = 0
          · have HN := Lib.hid (unesc_none h0 (HU.out.none_bad (by rw [HL.out]; exact hk2) (by rw [HG.out k hlt]; exact hc) (.inl (by rw [HG.out (k + 1) hk1]; exact hp1))))
            have g3 : ((hexP s[k + 1] : Int) == 0) = true := by rw [hp1]; rfl
            clear hc hp1
            go_wp2
            go_ret2
            exact ⟨by rw [HN.out]; rfl, HS.out.below⟩
          · have g3 : ((hexP s[k + 1] : Int) == 0) = false := beq_eq_false_iff_ne.2 (by omega)
            by_cases hp2 : hexP s[k + 2] = 0
            · have HN := Lib.hid (unesc_none h0 (HU.out.none_bad (by rw [HL.out]; exact hk2) (by rw [HG.out k hlt]; exact hc) (.inr (by rw [HG.out (k + 2) hk2]; exact hp2))))
              have g4 : ((hexP s[k + 2] : Int) == 0) = true := by rw [hp2]; rfl
              clear hc hp2 hp1
              go_wp2
              go_ret2
              exact ⟨by rw [HN.out]; rfl, HS.out.below⟩
            · have g4 : ((hexP s[k + 2] : Int) == 0) = false := beq_eq_false_iff_ne.2 (by omega)
              have hU2 := HU.out.hex (by rw [HL.out]; exact hk2) (by rw [HG.out k hlt]; exact hc) (by rw [HG.out (k + 1) hk1, HG.out (k + 2) hk2]; omega)
              rw [HG.out (k + 1) hk1, HG.out (k + 2) hk2] at hU2
              have HU2 := Lib.hid hU2
              have l1 := hexP_le s[k + 1]
              have l2 := hexP_le s[k + 2]
              have hor : bits .or .u8 (((hexP s[k + 1] : Int) - 1) * 16) ((hexP s[k + 2] : Int) - 1) = ((hexC s[k + 1] s[k + 2]).toNat : Int) := by
                rw [or_hex _ _ (by omega) l1 (by omega) l2]
                unfold hexC
                rw [UInt8.toNat_ofNat_of_lt' (by simp [UInt8.size]; omega)]
              have hTl : T < wr.heap.size := lt_of_block HS.out.table
              have hnews : ∀ W1 : World, (wr.alloc (.cells #[.int .u8 ((hexC s[k + 1] s[k + 2]).toNat : Int)] 5)).drew = W1 → W1.heap[wr.heap.size]? = some (.cells (nums .u8 [((hexC s[k + 1] s[k + 2]).toNat : Int)]).toArray 5 (0, 0)) ∧ W1.ownsRow (T + 1) 5 1 (.slice A5 n5 c5) (bytesI acc).length (nums .u8 (bytesI acc)) ∧ T + 1 ≤ W1.heap.size ∧ wr.grownBy W1 (Value.slice A5 n5 c5).ownBlock := by
                rintro W1 rfl
                exact ⟨heap_alloc_new wr _, HS.out.own.alloc _, by show T + 1 ≤ (wr.alloc _).heap.size; simp; omega, let g := World.grownBy_alloc wr (.cells #[.int .u8 ((hexC s[k + 1] s[k + 2]).toNat : Int)] 5) (Value.slice A5 n5 c5).ownBlock; ⟨g.os, g.tape, g.output, g.size, g.block⟩⟩
              have HN := Lib.hid hnews
              clear hnews
              clear hU2 hc
              go_wp2_with fail
              have j1 : (0 ≤ (k : Int) + 1 ∧ (k : Int) + 1 < (s.size : Int)) := by omega
              have j2 : (0 ≤ (k : Int) + 2 ∧ (k : Int) + 2 < (s.size : Int)) := by omega
              have z1 : (s[k + 1].toNat : Int) < 256 := by omega
              have z2 : (s[k + 2].toNat : Int) < 256 := by omega
              have m1 : ((k : Int) + 1).toNat = k + 1 := by omega
              have m2 : ((k : Int) + 2).toNat = k + 2 := by omega
              have x1 : IntKind.u8.wrap ((hexP s[k + 1] : Int) - 1) = (hexP s[k + 1] : Int) - 1 := by simp only [IntKind.wrap, IntKind.signed, IntKind.bits]; simp; omega
              have x2 : IntKind.u8.wrap ((hexP s[k + 2] : Int) - 1) = (hexP s[k + 2] : Int) - 1 := by clear x1; simp only [IntKind.wrap, IntKind.signed, IntKind.bits]; simp; omega
              have x3 : IntKind.u8.wrap (((hexP s[k + 1] : Int) - 1) * 16) = ((hexP s[k + 1] : Int) - 1) * 16 := by clear x1 x2; simp only [IntKind.wrap, IntKind.signed, IntKind.bits]; simp; omega
              have hl2 : ((bytesI acc).length + 1) * 1 ≤ 140737488355328 := by omega
              obtain ⟨e1, e2⟩ : wrap64 ((k : Int) + 1) = (k : Int) + 1 ∧ wrap64 ((k : Int) + 2) = (k : Int) + 2 := by unfold wrap64; omega
              refine start_ (n := 20) (S := fun w' => w'.cell? ⟨T, s[k + 1].toNat, none⟩ = some (.int .u8 (hexP s[k + 1] : Int)) ∧ w'.cell? ⟨T, s[k + 2].toNat, none⟩ = some (.int .u8 (hexP s[k + 2] : Int))) (ds := [18]) #[false, false, false, false, false, false, false, false, false, false, false, false, false, false, false, false, false, false, false, false] (by kernel_rfl) rfl rfl ⟨by go_simp, by go_simp⟩ (fun hHeld => ?_)
              refine pure_ (i := 0) (N := some 50) (v := ?_) (a' := ?_) #[true, false, false, false, false, false, false, false, false, false, false, false, false, false, false, false, false, false, false, false] rfl rfl (by kernel_rfl) (fun _ _ _ h => h) (Or.inl ⟨by rfl, ?_⟩) ?_ ?_
              rotate_left
              · intro w'
                go_simp
                with_reducible rfl
              rotate_left
              · simp only [Act.put, List.setIfInBounds_toArray, List.set_cons_zero, List.set_cons_succ, i64_w, i32_w]
                rfl
              refine pure_ (i := 1) (N := some 51) (v := ?_) (a' := ?_) #[true, true, false, false, false, false, false, false, false, false, false, false, false, false, false, false, false, false, false, false] rfl rfl (by kernel_rfl) (fun _ _ _ h => h) (Or.inl ⟨by rfl, ?_⟩) ?_ ?_
              rotate_left
              · intro w'
                go_simp
                with_reducible rfl
              rotate_left
              · simp only [Act.put, List.setIfInBounds_toArray, List.set_cons_zero, List.set_cons_succ, i64_w, i32_w]
                rfl
              refine pure_ (i := 2) (N := some 52) (v := ?_) (a' := ?_) #[true, true, true, false, false, false, false, false, false, false, false, false, false, false, false, false, false, false, false, false] rfl rfl (by kernel_rfl) (fun _ _ _ h => h) (Or.inl ⟨by rfl, ?_⟩) ?_ ?_
              rotate_left
              · intro w'
                go_simp
                with_reducible rfl
              rotate_left
              · simp only [Act.put, List.setIfInBounds_toArray, List.set_cons_zero, List.set_cons_succ, i64_w, i32_w]
                rfl
              refine pure_ (i := 3) (N := some 53) (v := ?_) (a' := ?_) #[true, true, true, true, false, false, false, false, false, false, false, false, false, false, false, false, false, false, false, false] rfl rfl (by kernel_rfl) (fun _ _ _ h => h) (Or.inl ⟨by rfl, ?_⟩) ?_ ?_
              rotate_left
              · intro w'
                go_simp
                with_reducible rfl
              rotate_left
              · simp only [Act.put, List.setIfInBounds_toArray, List.set_cons_zero, List.set_cons_succ, i64_w, i32_w]
                rfl
              refine pure_ (i := 9) (N := some 59) (v := ?_) (a' := ?_) #[true, true, true, true, false, false, false, false, false, true, false, false, false, false, false, false, false, false, false, false] rfl rfl (by kernel_rfl) (fun _ _ _ h => h) (Or.inl ⟨by rfl, ?_⟩) ?_ ?_
              rotate_left
              · intro w'
                go_simp
                with_reducible rfl
              rotate_left
              · simp only [Act.put, List.setIfInBounds_toArray, List.set_cons_zero, List.set_cons_succ, i64_w, i32_w]
                rfl
              refine pure_ (i := 10) (N := some 60) (v := ?_) (a' := ?_) #[true, true, true, true, false, false, false, false, false, true, true, false, false, false, false, false, false, false, false, false] rfl rfl (by kernel_rfl) (fun _ _ _ h => h) (Or.inl ⟨by rfl, ?_⟩) ?_ ?_
              rotate_left
              · intro w'
                go_simp
                with_reducible rfl
              rotate_left
              · simp only [Act.put, List.setIfInBounds_toArray, List.set_cons_zero, List.set_cons_succ, i64_w, i32_w]
                rfl
              refine pure_ (i := 11) (N := some 61) (v := ?_) (a' := ?_) #[true, true, true, true, false, false, false, false, false, true, true, true, false, false, false, false, false, false, false, false] rfl rfl (by kernel_rfl) (fun _ _ _ h => h) (Or.inl ⟨by rfl, ?_⟩) ?_ ?_
              rotate_left
              · intro w'
                go_simp
                with_reducible rfl
              rotate_left
              · simp only [Act.put, List.setIfInBounds_toArray, List.set_cons_zero, List.set_cons_succ, i64_w, i32_w]
                rfl
              refine take_ (i := 4) (N := some 54) (v := ?_) (a' := ?_) #[true, true, true, true, true, false, false, false, false, true, true, true, false, false, false, false, false, false, false, false] rfl rfl (by kernel_rfl) (fun _ _ _ h => h) (Or.inl ⟨by rfl, ?_⟩) hHeld ?_ ?_
              rotate_left
              · rintro w' ⟨s0, s1⟩
                go_simp
                with_reducible rfl
              rotate_left
              · simp only [Act.put, List.setIfInBounds_toArray, List.set_cons_zero, List.set_cons_succ, i64_w, i32_w]
                rfl
              refine pure_ (i := 5) (N := some 55) (v := ?_) (a' := ?_) #[true, true, true, true, true, true, false, false, false, true, true, true, false, false, false, false, false, false, false, false] rfl rfl (by kernel_rfl) (fun _ _ _ h => h) (Or.inl ⟨by rfl, ?_⟩) ?_ ?_
              rotate_left
              · intro w'
                go_simp
                with_reducible rfl
              rotate_left
              · simp only [Act.put, List.setIfInBounds_toArray, List.set_cons_zero, List.set_cons_succ, i64_w, i32_w]
                rfl
              refine take_ (i := 6) (N := some 56) (v := ?_) (a' := ?_) #[true, true, true, true, true, true, true, false, false, true, true, true, false, false, false, false, false, false, false, false] rfl rfl (by kernel_rfl) (fun _ _ _ h => h) (Or.inl ⟨by rfl, ?_⟩) hHeld ?_ ?_
              rotate_left
              · rintro w' ⟨s0, s1⟩
                go_simp
                with_reducible rfl
              rotate_left
              · simp only [Act.put, List.setIfInBounds_toArray, List.set_cons_zero, List.set_cons_succ, i64_w, i32_w]
                rfl
              refine pure_ (i := 7) (N := some 57) (v := ?_) (a' := ?_) #[true, true, true, true, true, true, true, true, false, true, true, true, false, false, false, false, false, false, false, false] rfl rfl (by kernel_rfl) (fun _ _ _ h => h) (Or.inl ⟨by rfl, ?_⟩) ?_ ?_
              rotate_left
              · intro w'
                go_simp
                with_reducible rfl
              rotate_left
              · simp only [Act.put, List.setIfInBounds_toArray, List.set_cons_zero, List.set_cons_succ, i64_w, i32_w]
                rfl
              refine pure_ (i := 8) (N := some 58) (v := ?_) (a' := ?_) #[true, true, true, true, true, true, true, true, true, true, true, true, false, false, false, false, false, false, false, false] rfl rfl (by kernel_rfl) (fun _ _ _ h => h) (Or.inl ⟨by rfl, ?_⟩) ?_ ?_
              rotate_left
              · intro w'
                go_simp
                with_reducible rfl
              rotate_left
              · simp only [Act.put, List.setIfInBounds_toArray, List.set_cons_zero, List.set_cons_succ, i64_w, i32_w]
                rfl
              refine take_ (i := 12) (N := some 62) (v := ?_) (a' := ?_) #[true, true, true, true, true, true, true, true, true, true, true, true, true, false, false, false, false, false, false, false] rfl rfl (by kernel_rfl) (fun _ _ _ h => h) (Or.inl ⟨by rfl, ?_⟩) hHeld ?_ ?_
              rotate_left
              · rintro w' ⟨s0, s1⟩
                go_simp
                with_reducible rfl
              rotate_left
              · simp only [Act.put, List.setIfInBounds_toArray, List.set_cons_zero, List.set_cons_succ, i64_w, i32_w]
                rfl
              refine pure_ (i := 13) (N := some 63) (v := ?_) (a' := ?_) #[true, true, true, true, true, true, true, true, true, true, true, true, true, true, false, false, false, false, false, false] rfl rfl (by kernel_rfl) (fun _ _ _ h => h) (Or.inl ⟨by rfl, ?_⟩) ?_ ?_
              rotate_left
              · intro w'
                go_simp
                with_reducible rfl
              rotate_left
              · simp only [Act.put, List.setIfInBounds_toArray, List.set_cons_zero, List.set_cons_succ, i64_w, i32_w]
                rfl
              refine take_ (i := 14) (N := some 64) (v := ?_) (a' := ?_) #[true, true, true, true, true, true, true, true, true, true, true, true, true, true, true, false, false, false, false, false] rfl rfl (by kernel_rfl) (fun _ _ _ h => h) (Or.inl ⟨by rfl, ?_⟩) hHeld ?_ ?_
              rotate_left
              · rintro w' ⟨s0, s1⟩
                go_simp
                with_reducible rfl
              rotate_left
              · simp only [Act.put, List.setIfInBounds_toArray, List.set_cons_zero, List.set_cons_succ, i64_w, i32_w]
                rfl
              refine pure_ (i := 15) (N := some 65) (v := ?_) (a' := ?_) #[true, true, true, true, true, true, true, true, true, true, true, true, true, true, true, true, false, false, false, false] rfl rfl (by kernel_rfl) (fun _ _ _ h => h) (Or.inl ⟨by rfl, ?_⟩) ?_ ?_
              rotate_left
              · intro w'
                go_simp
                with_reducible rfl
              rotate_left
              · simp only [Act.put, List.setIfInBounds_toArray, List.set_cons_zero, List.set_cons_succ, i64_w, i32_w]
                rfl
              refine pure_ (i := 16) (N := some 66) (v := ?_) (a' := ?_) #[true, true, true, true, true, true, true, true, true, true, true, true, true, true, true, true, true, false, false, false] rfl rfl (by kernel_rfl) (fun _ _ _ h => h) (Or.inl ⟨by rfl, ?_⟩) ?_ ?_
              rotate_left
              · intro w'
                go_simp
                with_reducible rfl
              rotate_left
              · simp only [Act.put, List.setIfInBounds_toArray, List.set_cons_zero, List.set_cons_succ, i64_w, i32_w]
                rfl
              refine one_ (i := 17) (N := some 67) #[true, true, true, true, true, true, true, true, true, true, true, true, true, true, true, true, true, true, false, false] rfl rfl (by kernel_rfl) (by decide) (fun K hK => ?_)
              refine value_ (w1 := ?_) (v := ?_) (by rfl) rfl ?_ ?_
              rotate_left 2
              · go_simp
                constructor
                · rfl
                · rfl
              refine hK.out _ _ ⟨by go_simp, by go_simp⟩ (fun hHeld => ?_)
              clear hK K
              refine norm_ (a' := ?_) ?_ ?_
              rotate_left
              · show Act.put _ (some 67) _ = _
                simp only [Act.put, List.setIfInBounds_toArray, List.set_cons_zero, List.set_cons_succ, i64_w, i32_w]
                rfl
              refine last_ (i := 18) (N := some 68) #[true, true, true, true, true, true, true, true, true, true, true, true, true, true, true, true, true, true, true, false] rfl rfl (by kernel_rfl) (by decide) (fun K hK => ?_)
              obtain ⟨hg1, hg2, hg3, hg4⟩ := HN.out _ rfl
              refine step_append_news _ (T + 1) (by rfl) (.tmp 50) (.tmp 67) 56 5 .u8 1 rfl Try.underlying56 info5 (by decide) (.slice A5 n5 c5) (bytesI acc) [((hexC s[k + 1] s[k + 2]).toNat : Int)] wr.heap.size 1 (0, 0) rfl rfl hg1 hg2 hg3 hl2 ?_
              intro v1 w3 ho hg
              have HS3 := Lib.hid (HS.out.grow ho (hg4.trans hg))
              clear ho hg hg1 hg2 hg3 hg4
              refine hK.out _ _ ?_
              clear hK K
              refine norm_ (a' := ?_) ?_ ?_
              rotate_left
              · show Act.put _ (some 68) _ = _
                simp only [Act.put, List.setIfInBounds_toArray, List.set_cons_zero, List.set_cons_succ, i64_w, i32_w]
                rfl
              refine pure_ (i := 19) (N := some 5) (v := ?_) (a' := ?_) #[true, true, true, true, true, true, true, true, true, true, true, true, true, true, true, true, true, true, true, true] rfl rfl (by kernel_rfl) (fun _ _ _ h => h) (Or.inl ⟨by rfl, ?_⟩) ?_ ?_
              rotate_left
              · intro w'
                go_simp
                with_reducible rfl
              rotate_left
              · simp only [Act.put, List.setIfInBounds_toArray, List.set_cons_zero, List.set_cons_succ, i64_w, i32_w]
                rfl
              refine done_ (by kernel_rfl) ?_
              clear e1 e2 x1 x2 x3
              go_wp2
              go_roundw
              case rel => exact ⟨k + 2 + 1, acc ++ [hexC s[k + 1] s[k + 2]], by go_num, by omega, by simp; omega, HU2, HS3⟩
              case measure => simp [intOf]; omega
      · have g1 : ((s[k].toNat : Int) != 37) = true := by
          rw [bne_iff_ne]
          intro e
          exact hc (UInt8.toNat.inj (by show s[k].toNat = 37; omega))
        have hU2 := HU.out.plain (by rw [HL.out]; exact hlt) hc
        rw [HG.out k hlt] at hU2
        have HU2 := Lib.hid hU2
        clear hU2 hc
        go_wp2_with (at_builtin; refine print_append_num (w0 := wr) (T + 1) rfl _ _ 56 5 .u8 1 rfl Try.underlying56 info5 (by omega) (.slice A5 n5 c5) (bytesI acc) (s[k].toNat : Int) rfl rfl HS.out.own (Below.refl _ _) (by have := lt_of_block HS.out.table; omega) (by omega) ?_; intro v1 w3 ho hb hg hat; have HS3 := Lib.hid (HS.out.grow ho hg); clear ho hb hg hat)
        go_roundw
        case rel => exact ⟨k + 1, acc ++ [s[k]], by go_num, by omega, by simp; omega, HU2, HS3⟩
        case measure => simp [intOf]; omega
    · obtain rfl : k = s.size := by omega
      have hd := HU.out
      rw [← HL.out] at hd
      have hcase := unesc_some h0 hd.done
      have hcv := own_string (P := Try.prog) Try.underlying56 Try.underlying5 Try.underlying9 HS.out.own
      rw [strOf_bytesI] at hcv
      have hz : (⟨acc.toArray⟩ : ByteArray).size = acc.length := by show acc.toArray.size = _; simp
      have HZ := Lib.hid hz
      have HC := Lib.hid hcase
      have HB := Lib.hid HS.out.below
      clear hd hcase hz
      generalize (⟨acc.toArray⟩ : ByteArray) = t at hcv HC HZ
      go_wp2_with fail
      refine (esc_calls t _ (by rw [HZ.out]; omega)).mono ?_
      rintro e w3 ⟨rfl, hb3⟩
      have HB3 := Lib.hid (HB.out.trans (hb3.mono HB.out.size))
      clear hb3 hcv
      by_cases heq : escB t = s
      · have HE := Lib.hid (HC.out.trans (if_pos heq))
        have g5 := beq_yes heq
        clear heq
        go_wp2
        go_ret2
        exact ⟨by rw [HE.out]; rfl, HB3.out⟩
      · have HE := Lib.hid (HC.out.trans (if_neg heq))
        have g5 := beq_no heq
        clear heq
        go_wp2
        go_ret2
        exact ⟨by rw [HE.out]; rfl, HB3.out⟩

end Go.Proofs.Ytnpmkaklkonofaa.Txt
