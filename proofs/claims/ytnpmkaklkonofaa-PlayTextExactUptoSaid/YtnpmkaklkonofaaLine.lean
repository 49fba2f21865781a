/- The document's own line of a step. -/
import Derived.Test.YtnpmkaklkonofaaRDec
import Derived.Test.YtnpmkaklkonofaaText
namespace Go.Proofs.Ytnpmkaklkonofaa.Txt
open Go.RowKit Go.Proofs.YtnpmkaklkonofaaW.PrintWords Go.Proofs.YtnpmkaklkonofaaW.PrintLast Go.Proofs.Ytnpmkaklkonofaa.Hand Go.Proofs.Ytnpmkaklkonofaa.Q

/-- So many numbers, a blank ahead of each; noughts for those that are not there. -/
def numsL (ns : List Int) : Nat → List UInt8
  | 0 => []
  | k + 1 => numsL ns k ++ 32 :: decL (ns.getD k 0)
/-- So many texts. -/
def textsL (S : List ByteArray) : Nat → List UInt8
  | 0 => []
  | k + 1 => textsL S k ++ 32 :: escL (S.getD k ByteArray.empty).data.toList

theorem decB_data (x : Int) : decB x = ⟨(decL x).toArray⟩ := rfl
theorem numsL_len (ns : List Int) (h : ∀ i, -9223372036854775808 ≤ ns.getD i 0 ∧ ns.getD i 0 ≤ 9223372036854775807) : ∀ k, (numsL ns k).length ≤ 21 * k
  | 0 => by simp [numsL]
  | k + 1 => by
    have h1 := numsL_len ns h k
    have h2 := decL_len (ns.getD k 0) (h k).1 (h k).2
    rw [numsL, List.length_append, List.length_cons]
    omega

/-- What the loops know of the world: the step's own variable (block A), the row's (block R), the numbers. -/
structure LWorld (A R : Nat) (cs rs : Array Value) (An : Option Addr) (ns : List Int) (w wr : World) : Prop where
  row : wr.heap[R]? = some (.cells rs 104 (0, 0))
  step : wr.heap[A]? = some (.cells cs 52 (0, 0))
  nums : Kd.C (Kd.int .i64) wr An ns.length ns
  below : Below w.heap.size w wr
theorem LWorld.call {A R : Nat} {cs rs : Array Value} {An : Option Addr} {ns : List Int} {w wr w1 : World} (h : LWorld A R cs rs An ns w wr) (hb : Below wr.heap.size wr w1) : LWorld A R cs rs An ns w w1 :=
  ⟨(hb.block _ (lt_of_block h.row)).trans h.row, (hb.block _ (lt_of_block h.step)).trans h.step, Kd.C_below h.nums hb, h.below.trans (hb.mono h.below.size)⟩

set_option maxHeartbeats 8000000 in
set_option maxRecDepth 100000 in
theorem line_calls (x : Int) (N : List Int) (S : List ByteArray) (o0 o1 o2 o3 o4 o5 : Int) (AN AS : Option Addr) (cN cS : Nat) (w : World) (wd : ByteArray) (nn ss mo : Nat) (oo : Bool)
    (hrow : annalsref30_row.f x = some (wd, (nn : Int), (ss : Int), (mo : Int), oo)) (hoo : oo = true → mo = 0) (hnn : nn ≤ 10) (hss : ss ≤ 10) (hwd : wd.size ≤ 100)
    (hN : Kd.C (Kd.int .i64) w AN N.length N) (hcN : N.length ≤ cN) (hS : Kd.C Kd.string w AS S.length S) (hcS : S.length ≤ cS)
    (hNr : ∀ i, -9223372036854775808 ≤ N.getD i 0 ∧ N.getD i 0 ≤ 9223372036854775807) (hOr : ∀ i, -9223372036854775808 ≤ [o0, o1, o2, o3, o4, o5].getD i 0 ∧ [o0, o1, o2, o3, o4, o5].getD i 0 ≤ 9223372036854775807) (hSr : ∀ i, (S.getD i ByteArray.empty).size ≤ 35184372088832) (hNl : N.length ≤ 1073741824) (hSl : S.length ≤ 1073741824)
    (hlen : ∀ k, k ≤ (if mo = 2 then max ss S.length else ss) → (textsL S k).length ≤ 100000000000000) :
    Calls Try.prog 31 #[.agg #[.int .i64 x, .slice AN N.length cN, .slice AS S.length cS, .int .i64 o0, .int .i64 o1, .int .i64 o2, .int .i64 o3, .int .i64 o4, .int .i64 o5]] w fun e w' =>
      e = .returned (.string ⟨(wd.data.toList ++ numsL (if oo = true then [o0, o1, o2, o3, o4, o5] else N) (if oo = true then (if mo = 1 then max 6 6 else 6) else if mo = 1 then max nn N.length else nn) ++ textsL S (if mo = 2 then max ss S.length else ss) ++ [10]).toArray⟩) ∧ Below w.heap.size w w' := by
  have HN := Lib.hid hN
  have HS := Lib.hid hS
  have HNr := Lib.hid hNr
  have HOr := Lib.hid hOr
  have HSr := Lib.hid hSr
  have HROW := Lib.hid hrow
  have HLEN := Lib.hid hlen
  have HOO := Lib.hid hoo
  have hu := Try.underlying50
  have hu2 := Try.underlying104
  clear hN hS hNr hOr hSr hrow hlen hoo
  obtain ⟨res, hres⟩ : ∃ res : ByteArray, res = ⟨(wd.data.toList ++ numsL (if oo = true then [o0, o1, o2, o3, o4, o5] else N) (if oo = true then (if mo = 1 then max 6 6 else 6) else if mo = 1 then max nn N.length else nn) ++ textsL S (if mo = 2 then max ss S.length else ss) ++ [10]).toArray⟩ := ⟨_, rfl⟩
  rw [← hres]
  have HRES := Lib.hid hres
  clear hres
  go_enter Try.func31, Try.ntmps31
  go_wp2_with fail
  obtain ⟨W, hW, hA, hB⟩ : ∃ W, w.alloc (.cells #[.int .i64 x, .slice AN N.length cN, .slice AS S.length cS, .int .i64 o0, .int .i64 o1, .int .i64 o2, .int .i64 o3, .int .i64 o4, .int .i64 o5] 52) = W ∧ W.heap[w.heap.size]? = some (.cells #[.int .i64 x, .slice AN N.length cN, .slice AS S.length cS, .int .i64 o0, .int .i64 o1, .int .i64 o2, .int .i64 o3, .int .i64 o4, .int .i64 o5] 52 (0, 0)) ∧ Below w.heap.size w W := ⟨_, rfl, heap_alloc_new w _, (Below.refl _ _).alloc (Nat.le_refl _) _⟩
  rw [hW]
  refine (annalsref30_row.calls x wd nn ss mo oo W HROW.out).mono ?_
  rintro e w3 ⟨rfl, hb3⟩
  have hA3 := (hb3.block _ (lt_of_block hA)).trans hA
  have HB3 := Lib.hid (hB.trans (hb3.mono hB.size))
  have hlt : w.heap.size < w3.heap.size := lt_of_block hA3
  have d1 : w3.cell? ⟨w.heap.size, 1, none⟩ = some (.slice AN N.length cN) := cell_of_row w3 _ 1 _ _ _ hA3
  have d2 : w3.cell? ⟨w.heap.size, 2, none⟩ = some (.slice AS S.length cS) := cell_of_row w3 _ 2 _ _ _ hA3
  have d3 : w3.cell? ⟨w.heap.size, 3, none⟩ = some (.int .i64 o0) := cell_of_row w3 _ 3 _ _ _ hA3
  have d4 : w3.cell? ⟨w.heap.size, 4, none⟩ = some (.int .i64 o1) := cell_of_row w3 _ 4 _ _ _ hA3
  have d5 : w3.cell? ⟨w.heap.size, 5, none⟩ = some (.int .i64 o2) := cell_of_row w3 _ 5 _ _ _ hA3
  have d6 : w3.cell? ⟨w.heap.size, 6, none⟩ = some (.int .i64 o3) := cell_of_row w3 _ 6 _ _ _ hA3
  have d7 : w3.cell? ⟨w.heap.size, 7, none⟩ = some (.int .i64 o4) := cell_of_row w3 _ 7 _ _ _ hA3
  have d8 : w3.cell? ⟨w.heap.size, 8, none⟩ = some (.int .i64 o5) := cell_of_row w3 _ 8 _ _ _ hA3
  have HA3 := Lib.hid hA3
  clear hW hA hB hb3 hA3
  cases oo with
  | true =>
    have m1 : ((mo : Int) == 1) = false := by rw [beq_eq_false_iff_ne]; have := HOO.out rfl; omega
    go_wp2_with fail
    obtain ⟨wL, hwL, R, hR, rs, hrs, hWL⟩ : ∃ wL, w3.alloc (.cells #[.string wd, .int .i64 (nn : Int), .int .i64 (ss : Int), .int .i64 (mo : Int), .bool true] 104) = wL ∧ ∃ R, w3.heap.size = R ∧ ∃ rs, rs = #[.string wd, .int .i64 (nn : Int), .int .i64 (ss : Int), .int .i64 (mo : Int), .bool true] ∧ (wL.heap[R]? = some (.cells rs 104 (0, 0)) ∧ wL.heap[w.heap.size]? = some (.cells #[.int .i64 x, .slice AN N.length cN, .slice AS S.length cS, .int .i64 o0, .int .i64 o1, .int .i64 o2, .int .i64 o3, .int .i64 o4, .int .i64 o5] 52 (0, 0)) ∧ Below w.heap.size w wL) :=
      ⟨_, rfl, _, rfl, _, rfl, heap_alloc_new w3 _, (Below.heap_alloc _ _ _ hlt).trans HA3.out, HB3.out.alloc HB3.out.size _⟩
    rw [hwL, hR]
    have HWL := Lib.hid hWL
    clear hwL hR hWL d1 d2 d3 d4 d5 d6 d7 d8 hlt HA3 HB3
    obtain ⟨ns, hns⟩ : ∃ ns, ns = [o0, o1, o2, o3, o4, o5] := ⟨_, rfl⟩
    refine (annalsref30_opts.calls o0 o1 o2 o3 o4 o5 ns _ (by rw [hns]; rfl)).mono ?_
    rintro e w6 ⟨vn, rfl, hRn, hb6⟩
    obtain ⟨An, cn, rfl, _, hCn⟩ := Kd.R_reads hRn
    have hnl6 : ns.length = 6 := by rw [hns]; rfl
    have HNSr : Hid (∀ i, -9223372036854775808 ≤ ns.getD i 0 ∧ ns.getD i 0 ≤ 9223372036854775807) := by rw [hns]; exact HOr.out
    have HW : Hid (LWorld w.heap.size R #[.int .i64 x, .slice AN N.length cN, .slice AS S.length cS, .int .i64 o0, .int .i64 o1, .int .i64 o2, .int .i64 o3, .int .i64 o4, .int .i64 o5] rs An ns w w6) :=
      ⟨(hb6.block _ (lt_of_block HWL.out.1)).trans HWL.out.1, (hb6.block _ (lt_of_block HWL.out.2.1)).trans HWL.out.2.1, hCn, HWL.out.2.2.trans (hb6.mono HWL.out.2.2.size)⟩
    have r3 : w6.cell? ⟨R, 3, none⟩ = some (.int .i64 (mo : Int)) := cell_of_row w6 _ 3 _ _ _ (by have := HW.out.row; rw [hrs] at this; exact this)
    have HNS := Lib.hid hns
    have HRS := Lib.hid hrs
    have HN6 := Lib.hid hnl6
    clear hRn hb6 hCn hns HWL hrs hnl6
    go_wp2_with fail
    clear r3
    go_loopg [4, 7] (6) (fun gk v4 v7 wr => ∃ (k : Nat) (t : ByteArray), v7 = .int .i64 k ∧ v4 = .string t ∧ gk + k = 6 ∧ t.size ≤ 100 + 21 * k ∧ Hid (t = ⟨(wd.data.toList ++ numsL ns k).toArray⟩) ∧ Hid (LWorld w.heap.size R #[.int .i64 x, .slice AN N.length cN, .slice AS S.length cS, .int .i64 o0, .int .i64 o1, .int .i64 o2, .int .i64 o3, .int .i64 o4, .int .i64 o5] rs An ns w wr))
    case atStart => exact ⟨0, wd, rfl, rfl, by omega, by omega, by show _ = _; simp [numsL], HW⟩
    case round =>
      clear HW
      obtain ⟨k, t, rfl, rfl, hgk, ht, HT, HW⟩ := hrel
      by_cases hk : k < 6
      · obtain ⟨gk', rfl⟩ : ∃ m, gk = m + 1 := ⟨gk - 1, by omega⟩
        have hv := HNSr.out k
        have HV := Lib.hid hv
        have hds := decB_size (ns.getD k 0) hv.1 hv.2
        have HT3 : Hid (⟨(wd.data.toList ++ numsL ns (k + 1)).toArray⟩ = (t ++ ⟨#[32]⟩) ++ decB (ns.getD k 0)) := by
          show _ = _
          rw [HT.out, append_arr _ [32]]
          show _ = _ ++ (⟨(decL _).toArray⟩ : ByteArray)
          rw [append_arr]; simp [numsL]
        have hq1 : t.size + 1 ≤ 9223372036854775807 := by omega
        by_cases hkl : k < ns.length
        · have hkl2 : (k : Int) < (ns.length : Int) := by omega
          obtain ⟨ad, e, hel⟩ := Kd.at_int HW.out.nums (k : Int) (by omega) (by omega)
          subst e
          have hel2 : wr.cell? (ad.add k) = some (.int .i64 (ns.getD k 0)) := by simpa [rd] using hel
          clear hel hv
          generalize ns.getD k 0 = nv at *
          go_wp2_with fail
          refine (rdec_calls nv _ HV.out.1 HV.out.2).mono ?_
          rintro e w7 ⟨rfl, hd7⟩
          have hW7 := Lib.hid (HW.out.call hd7.below)
          clear hd7 hel2
          generalize decB nv = dv at *
          have hq2 : (t ++ ⟨#[32]⟩).size + dv.size ≤ 9223372036854775807 := by rw [ByteArray.size_append]; have : (⟨#[32]⟩ : ByteArray).size = 1 := rfl; omega
          have hq3 : t.size + 1 + dv.size ≤ 9223372036854775807 := by omega
          have HZ : Hid (((t ++ ⟨#[32]⟩) ++ dv).size ≤ 100 + 21 * (k + 1)) := by
            show _ ≤ _
            rw [ByteArray.size_append, ByteArray.size_append]; have : (⟨#[32]⟩ : ByteArray).size = 1 := rfl; omega
          go_wp2
          go_roundg gk'
          case rel => exact ⟨k + 1, (t ++ ⟨#[32]⟩) ++ dv, by go_num, rfl, by omega, HZ.out, Lib.hid HT3.out.symm, hW7⟩
          case measure => omega
        · have hkl2 : ¬ (k : Int) < (ns.length : Int) := by omega
          have hz : ns.getD k 0 = 0 := by rw [List.getD_eq_getElem?_getD, List.getElem?_eq_none (by omega)]; rfl
          rw [hz] at HT3 hds HV
          clear hz hv
          go_wp2_with fail
          refine (rdec_calls 0 _ (by omega) (by omega)).mono ?_
          rintro e w7 ⟨rfl, hd7⟩
          have hW7 := Lib.hid (HW.out.call hd7.below)
          clear hd7
          generalize decB 0 = dv at *
          have hq2 : (t ++ ⟨#[32]⟩).size + dv.size ≤ 9223372036854775807 := by rw [ByteArray.size_append]; have : (⟨#[32]⟩ : ByteArray).size = 1 := rfl; omega
          have hq3 : t.size + 1 + dv.size ≤ 9223372036854775807 := by omega
          have HZ : Hid (((t ++ ⟨#[32]⟩) ++ dv).size ≤ 100 + 21 * (k + 1)) := by
            show _ ≤ _
            rw [ByteArray.size_append, ByteArray.size_append]; have : (⟨#[32]⟩ : ByteArray).size = 1 := rfl; omega
          go_wp2
          go_roundg gk'
          case rel => exact ⟨k + 1, (t ++ ⟨#[32]⟩) ++ dv, by go_num, rfl, by omega, HZ.out, Lib.hid HT3.out.symm, hW7⟩
          case measure => omega
      · obtain rfl : 6 = k := by omega
        have e2 : wr.cell? ⟨w.heap.size, 2, none⟩ = some (.slice AS S.length cS) := cell_of_row wr _ 2 _ _ _ HW.out.step
        have r2 : wr.cell? ⟨R, 2, none⟩ = some (.int .i64 (ss : Int)) := cell_of_row wr _ 2 _ _ _ (by have := HW.out.row; rw [HRS.out] at this; exact this)
        have r3 : wr.cell? ⟨R, 3, none⟩ = some (.int .i64 (mo : Int)) := cell_of_row wr _ 3 _ _ _ (by have := HW.out.row; rw [HRS.out] at this; exact this)
        have ht9 : t.size ≤ 100000000000 := by omega
        clear ht
        by_cases hm2 : mo = 2
        · have q1 : ((mo : Int) == 2) = true := by rw [hm2]; rfl
          by_cases hm3 : ss < S.length
          · have q2 : decide ((S.length : Int) > (ss : Int)) = true := decide_eq_true (by omega)
            have HM := Lib.hid hm2
            clear hm2
            go_wp2_with fail
            have hu0 := decL_len
            clear hu0
            go_loopg [4, 10] (S.length) (fun gk v4 v10 wr => ∃ (k : Nat) (t : ByteArray), v10 = .int .i64 k ∧ v4 = .string t ∧ gk + k = S.length ∧ t.size ≤ 200000000000000 ∧ Hid (t = ⟨((wd.data.toList ++ numsL ns (6)) ++ textsL S k).toArray⟩) ∧ Hid (LWorld w.heap.size R #[.int .i64 x, .slice AN N.length cN, .slice AS S.length cS, .int .i64 o0, .int .i64 o1, .int .i64 o2, .int .i64 o3, .int .i64 o4, .int .i64 o5] rs An ns w wr))
            case atStart => exact ⟨0, t, rfl, rfl, by omega, by omega, by show _ = _; rw [HT.out]; simp [textsL], HW⟩
            case round =>
              obtain ⟨k2, t2, rfl, rfl, hgk2, ht2, HT2, HW2⟩ := hrel
              by_cases hk2 : k2 < S.length
              · obtain ⟨gk2, rfl⟩ : ∃ m, gk = m + 1 := ⟨gk - 1, by omega⟩
                have hlt2 : (k2 : Int) < (S.length : Int) := by omega
                have e0 : wr.cell? ⟨w.heap.size, 0, none⟩ = some (.int .i64 x) := cell_of_row wr _ 0 _ _ _ HW2.out.step
                have e1 : wr.cell? ⟨w.heap.size, 1, none⟩ = some (.slice AN N.length cN) := cell_of_row wr _ 1 _ _ _ HW2.out.step
                have e2 : wr.cell? ⟨w.heap.size, 2, none⟩ = some (.slice AS S.length cS) := cell_of_row wr _ 2 _ _ _ HW2.out.step
                have e3 : wr.cell? ⟨w.heap.size, 3, none⟩ = some (.int .i64 o0) := cell_of_row wr _ 3 _ _ _ HW2.out.step
                have e4 : wr.cell? ⟨w.heap.size, 4, none⟩ = some (.int .i64 o1) := cell_of_row wr _ 4 _ _ _ HW2.out.step
                have e5 : wr.cell? ⟨w.heap.size, 5, none⟩ = some (.int .i64 o2) := cell_of_row wr _ 5 _ _ _ HW2.out.step
                have e6 : wr.cell? ⟨w.heap.size, 6, none⟩ = some (.int .i64 o3) := cell_of_row wr _ 6 _ _ _ HW2.out.step
                have e7 : wr.cell? ⟨w.heap.size, 7, none⟩ = some (.int .i64 o4) := cell_of_row wr _ 7 _ _ _ HW2.out.step
                have e8 : wr.cell? ⟨w.heap.size, 8, none⟩ = some (.int .i64 o5) := cell_of_row wr _ 8 _ _ _ HW2.out.step
                have hq1 : t2.size + 1 ≤ 9223372036854775807 := by omega
                have hsv := HSr.out k2
                have hle := HLEN.out (k2 + 1) (by have := HM.out; rw [if_pos this]; omega)
                have hnl := numsL_len ns HNSr.out (6)
                have hT3 : ⟨((wd.data.toList ++ numsL ns (6)) ++ textsL S (k2 + 1)).toArray⟩ = (t2 ++ ⟨#[32]⟩) ++ escB (S.getD k2 ByteArray.empty) := by
                  rw [HT2.out, append_arr _ [32]]
                  show _ = _ ++ (⟨(escL _).toArray⟩ : ByteArray)
                  rw [append_arr]; simp [textsL]
                have HT3 := Lib.hid hT3
                have hsz3 : ((t2 ++ ⟨#[32]⟩) ++ escB (S.getD k2 ByteArray.empty)).size ≤ 200000000000000 := by
                  rw [← hT3, size_arr, List.length_append, List.length_append, dsize]; omega
                have hwf : annalsref30_Word.f x N S o0 o1 o2 o3 o4 o5 (k2 : Int) = some (S.getD k2 ByteArray.empty) := by
                  have := word_f S k2
                  unfold play_word.f at this
                  unfold annalsref30_Word.f
                  exact this
                have HWF := Lib.hid hwf
                have hz3 : t2.size + 1 + (escB (S.getD k2 ByteArray.empty)).size ≤ 9223372036854775807 := by
                  rw [ByteArray.size_append, ByteArray.size_append] at hsz3
                  have : (⟨#[32]⟩ : ByteArray).size = 1 := rfl
                  omega
                have HZ3 := Lib.hid hsz3
                clear hT3 hwf hsz3 hnl hle
                generalize S.getD k2 ByteArray.empty = sv at *
                go_wp2_with fail
                refine (annalsref30_Word.calls x AN cN N AS cS S o0 o1 o2 o3 o4 o5 (k2 : Int) sv _ (Kd.C_below HN.out HW2.out.below) hcN (Kd.C_below HS.out HW2.out.below) hcS HWF.out).mono ?_
                rintro e w8 ⟨rfl, hb8⟩
                have hW8 := Lib.hid (HW2.out.call hb8)
                clear hb8 e0 e1 e2 e3 e4 e5 e6 e7 e8
                go_wp2_with fail
                refine (resc_calls sv _ hsv).mono ?_
                rintro e w9 ⟨rfl, hd9⟩
                have hW9 := Lib.hid (hW8.out.call (Drawn0.below ⟨hd9⟩))
                clear hd9 hsv
                generalize escB sv = ev at *
                have hq2 : (t2 ++ ⟨#[32]⟩).size + ev.size ≤ 9223372036854775807 := by rw [ByteArray.size_append]; exact hz3
                go_wp2
                go_roundg gk2
                case rel => exact ⟨k2 + 1, (t2 ++ ⟨#[32]⟩) ++ ev, by go_num, rfl, by omega, HZ3.out, Lib.hid HT3.out.symm, hW9⟩
                case measure => omega
              · obtain rfl : S.length = k2 := by omega
                have hq1 : t2.size + 1 ≤ 9223372036854775807 := by omega
                have HF : Hid (t2 ++ ⟨#[10]⟩ = ⟨(((wd.data.toList ++ numsL ns (6)) ++ textsL S (S.length)) ++ [10]).toArray⟩) := by
                  show _ = _
                  rw [HT2.out]; exact append_arr _ [10]
                go_wp2
                go_ret
                refine ⟨?_, HW2.out.below⟩
                have e2 : (if mo = 2 then max ss S.length else ss) = (S.length) := by have := HM.out; rw [if_pos this]; omega
                have e3 : (⟨(((wd.data.toList ++ numsL ns (6)) ++ textsL S (S.length)) ++ [10]).toArray⟩ : ByteArray) = res := by
                  rw [HRES.out, e2]
                  have h0 := HOO.out (by trivial); rw [← HNS.out]; simp only [if_true]; rw [if_neg (show ¬ mo = 1 by omega)]
                rw [← e3, ← HF.out]
                rfl
          · have q2 : decide ((S.length : Int) > (ss : Int)) = false := decide_eq_false (by omega)
            have HM := Lib.hid hm2
            clear hm2
            go_wp2_with fail
            have hu0 := decL_len
            clear hu0
            go_loopg [4, 10] (ss) (fun gk v4 v10 wr => ∃ (k : Nat) (t : ByteArray), v10 = .int .i64 k ∧ v4 = .string t ∧ gk + k = ss ∧ t.size ≤ 200000000000000 ∧ Hid (t = ⟨((wd.data.toList ++ numsL ns (6)) ++ textsL S k).toArray⟩) ∧ Hid (LWorld w.heap.size R #[.int .i64 x, .slice AN N.length cN, .slice AS S.length cS, .int .i64 o0, .int .i64 o1, .int .i64 o2, .int .i64 o3, .int .i64 o4, .int .i64 o5] rs An ns w wr))
            case atStart => exact ⟨0, t, rfl, rfl, by omega, by omega, by show _ = _; rw [HT.out]; simp [textsL], HW⟩
            case round =>
              obtain ⟨k2, t2, rfl, rfl, hgk2, ht2, HT2, HW2⟩ := hrel
              by_cases hk2 : k2 < ss
              · obtain ⟨gk2, rfl⟩ : ∃ m, gk = m + 1 := ⟨gk - 1, by omega⟩
                have hlt2 : (k2 : Int) < (ss : Int) := by omega
                have e0 : wr.cell? ⟨w.heap.size, 0, none⟩ = some (.int .i64 x) := cell_of_row wr _ 0 _ _ _ HW2.out.step
                have e1 : wr.cell? ⟨w.heap.size, 1, none⟩ = some (.slice AN N.length cN) := cell_of_row wr _ 1 _ _ _ HW2.out.step
                have e2 : wr.cell? ⟨w.heap.size, 2, none⟩ = some (.slice AS S.length cS) := cell_of_row wr _ 2 _ _ _ HW2.out.step
                have e3 : wr.cell? ⟨w.heap.size, 3, none⟩ = some (.int .i64 o0) := cell_of_row wr _ 3 _ _ _ HW2.out.step
                have e4 : wr.cell? ⟨w.heap.size, 4, none⟩ = some (.int .i64 o1) := cell_of_row wr _ 4 _ _ _ HW2.out.step
                have e5 : wr.cell? ⟨w.heap.size, 5, none⟩ = some (.int .i64 o2) := cell_of_row wr _ 5 _ _ _ HW2.out.step
                have e6 : wr.cell? ⟨w.heap.size, 6, none⟩ = some (.int .i64 o3) := cell_of_row wr _ 6 _ _ _ HW2.out.step
                have e7 : wr.cell? ⟨w.heap.size, 7, none⟩ = some (.int .i64 o4) := cell_of_row wr _ 7 _ _ _ HW2.out.step
                have e8 : wr.cell? ⟨w.heap.size, 8, none⟩ = some (.int .i64 o5) := cell_of_row wr _ 8 _ _ _ HW2.out.step
                have hq1 : t2.size + 1 ≤ 9223372036854775807 := by omega
                have hsv := HSr.out k2
                have hle := HLEN.out (k2 + 1) (by have := HM.out; rw [if_pos this]; omega)
                have hnl := numsL_len ns HNSr.out (6)
                have hT3 : ⟨((wd.data.toList ++ numsL ns (6)) ++ textsL S (k2 + 1)).toArray⟩ = (t2 ++ ⟨#[32]⟩) ++ escB (S.getD k2 ByteArray.empty) := by
                  rw [HT2.out, append_arr _ [32]]
                  show _ = _ ++ (⟨(escL _).toArray⟩ : ByteArray)
                  rw [append_arr]; simp [textsL]
                have HT3 := Lib.hid hT3
                have hsz3 : ((t2 ++ ⟨#[32]⟩) ++ escB (S.getD k2 ByteArray.empty)).size ≤ 200000000000000 := by
                  rw [← hT3, size_arr, List.length_append, List.length_append, dsize]; omega
                have hwf : annalsref30_Word.f x N S o0 o1 o2 o3 o4 o5 (k2 : Int) = some (S.getD k2 ByteArray.empty) := by
                  have := word_f S k2
                  unfold play_word.f at this
                  unfold annalsref30_Word.f
                  exact this
                have HWF := Lib.hid hwf
                have hz3 : t2.size + 1 + (escB (S.getD k2 ByteArray.empty)).size ≤ 9223372036854775807 := by
                  rw [ByteArray.size_append, ByteArray.size_append] at hsz3
                  have : (⟨#[32]⟩ : ByteArray).size = 1 := rfl
                  omega
                have HZ3 := Lib.hid hsz3
                clear hT3 hwf hsz3 hnl hle
                generalize S.getD k2 ByteArray.empty = sv at *
                go_wp2_with fail
                refine (annalsref30_Word.calls x AN cN N AS cS S o0 o1 o2 o3 o4 o5 (k2 : Int) sv _ (Kd.C_below HN.out HW2.out.below) hcN (Kd.C_below HS.out HW2.out.below) hcS HWF.out).mono ?_
                rintro e w8 ⟨rfl, hb8⟩
                have hW8 := Lib.hid (HW2.out.call hb8)
                clear hb8 e0 e1 e2 e3 e4 e5 e6 e7 e8
                go_wp2_with fail
                refine (resc_calls sv _ hsv).mono ?_
                rintro e w9 ⟨rfl, hd9⟩
                have hW9 := Lib.hid (hW8.out.call (Drawn0.below ⟨hd9⟩))
                clear hd9 hsv
                generalize escB sv = ev at *
                have hq2 : (t2 ++ ⟨#[32]⟩).size + ev.size ≤ 9223372036854775807 := by rw [ByteArray.size_append]; exact hz3
                go_wp2
                go_roundg gk2
                case rel => exact ⟨k2 + 1, (t2 ++ ⟨#[32]⟩) ++ ev, by go_num, rfl, by omega, HZ3.out, Lib.hid HT3.out.symm, hW9⟩
                case measure => omega
              · obtain rfl : ss = k2 := by omega
                have hq1 : t2.size + 1 ≤ 9223372036854775807 := by omega
                have HF : Hid (t2 ++ ⟨#[10]⟩ = ⟨(((wd.data.toList ++ numsL ns (6)) ++ textsL S (ss)) ++ [10]).toArray⟩) := by
                  show _ = _
                  rw [HT2.out]; exact append_arr _ [10]
                go_wp2
                go_ret
                refine ⟨?_, HW2.out.below⟩
                have e2 : (if mo = 2 then max ss S.length else ss) = (ss) := by have := HM.out; rw [if_pos this]; omega
                have e3 : (⟨(((wd.data.toList ++ numsL ns (6)) ++ textsL S (ss)) ++ [10]).toArray⟩ : ByteArray) = res := by
                  rw [HRES.out, e2]
                  have h0 := HOO.out (by trivial); rw [← HNS.out]; simp only [if_true]; rw [if_neg (show ¬ mo = 1 by omega)]
                rw [← e3, ← HF.out]
                rfl
        · have q1 : ((mo : Int) == 2) = false := by rw [beq_eq_false_iff_ne]; omega
          go_wp2_with fail
          have hu0 := decL_len
          clear hu0
          go_loopg [4, 10] (ss) (fun gk v4 v10 wr => ∃ (k : Nat) (t : ByteArray), v10 = .int .i64 k ∧ v4 = .string t ∧ gk + k = ss ∧ t.size ≤ 200000000000000 ∧ Hid (t = ⟨((wd.data.toList ++ numsL ns (6)) ++ textsL S k).toArray⟩) ∧ Hid (LWorld w.heap.size R #[.int .i64 x, .slice AN N.length cN, .slice AS S.length cS, .int .i64 o0, .int .i64 o1, .int .i64 o2, .int .i64 o3, .int .i64 o4, .int .i64 o5] rs An ns w wr))
          case atStart => exact ⟨0, t, rfl, rfl, by omega, by omega, by show _ = _; rw [HT.out]; simp [textsL], HW⟩
          case round =>
            obtain ⟨k2, t2, rfl, rfl, hgk2, ht2, HT2, HW2⟩ := hrel
            by_cases hk2 : k2 < ss
            · obtain ⟨gk2, rfl⟩ : ∃ m, gk = m + 1 := ⟨gk - 1, by omega⟩
              have hlt2 : (k2 : Int) < (ss : Int) := by omega
              have e0 : wr.cell? ⟨w.heap.size, 0, none⟩ = some (.int .i64 x) := cell_of_row wr _ 0 _ _ _ HW2.out.step
              have e1 : wr.cell? ⟨w.heap.size, 1, none⟩ = some (.slice AN N.length cN) := cell_of_row wr _ 1 _ _ _ HW2.out.step
              have e2 : wr.cell? ⟨w.heap.size, 2, none⟩ = some (.slice AS S.length cS) := cell_of_row wr _ 2 _ _ _ HW2.out.step
              have e3 : wr.cell? ⟨w.heap.size, 3, none⟩ = some (.int .i64 o0) := cell_of_row wr _ 3 _ _ _ HW2.out.step
              have e4 : wr.cell? ⟨w.heap.size, 4, none⟩ = some (.int .i64 o1) := cell_of_row wr _ 4 _ _ _ HW2.out.step
              have e5 : wr.cell? ⟨w.heap.size, 5, none⟩ = some (.int .i64 o2) := cell_of_row wr _ 5 _ _ _ HW2.out.step
              have e6 : wr.cell? ⟨w.heap.size, 6, none⟩ = some (.int .i64 o3) := cell_of_row wr _ 6 _ _ _ HW2.out.step
              have e7 : wr.cell? ⟨w.heap.size, 7, none⟩ = some (.int .i64 o4) := cell_of_row wr _ 7 _ _ _ HW2.out.step
              have e8 : wr.cell? ⟨w.heap.size, 8, none⟩ = some (.int .i64 o5) := cell_of_row wr _ 8 _ _ _ HW2.out.step
              have hq1 : t2.size + 1 ≤ 9223372036854775807 := by omega
              have hsv := HSr.out k2
              have hle := HLEN.out (k2 + 1) (by rw [if_neg hm2]; omega)
              have hnl := numsL_len ns HNSr.out (6)
              have hT3 : ⟨((wd.data.toList ++ numsL ns (6)) ++ textsL S (k2 + 1)).toArray⟩ = (t2 ++ ⟨#[32]⟩) ++ escB (S.getD k2 ByteArray.empty) := by
                rw [HT2.out, append_arr _ [32]]
                show _ = _ ++ (⟨(escL _).toArray⟩ : ByteArray)
                rw [append_arr]; simp [textsL]
              have HT3 := Lib.hid hT3
              have hsz3 : ((t2 ++ ⟨#[32]⟩) ++ escB (S.getD k2 ByteArray.empty)).size ≤ 200000000000000 := by
                rw [← hT3, size_arr, List.length_append, List.length_append, dsize]; omega
              have hwf : annalsref30_Word.f x N S o0 o1 o2 o3 o4 o5 (k2 : Int) = some (S.getD k2 ByteArray.empty) := by
                have := word_f S k2
                unfold play_word.f at this
                unfold annalsref30_Word.f
                exact this
              have HWF := Lib.hid hwf
              have hz3 : t2.size + 1 + (escB (S.getD k2 ByteArray.empty)).size ≤ 9223372036854775807 := by
                rw [ByteArray.size_append, ByteArray.size_append] at hsz3
                have : (⟨#[32]⟩ : ByteArray).size = 1 := rfl
                omega
              have HZ3 := Lib.hid hsz3
              clear hT3 hwf hsz3 hnl hle
              generalize S.getD k2 ByteArray.empty = sv at *
              go_wp2_with fail
              refine (annalsref30_Word.calls x AN cN N AS cS S o0 o1 o2 o3 o4 o5 (k2 : Int) sv _ (Kd.C_below HN.out HW2.out.below) hcN (Kd.C_below HS.out HW2.out.below) hcS HWF.out).mono ?_
              rintro e w8 ⟨rfl, hb8⟩
              have hW8 := Lib.hid (HW2.out.call hb8)
              clear hb8 e0 e1 e2 e3 e4 e5 e6 e7 e8
              go_wp2_with fail
              refine (resc_calls sv _ hsv).mono ?_
              rintro e w9 ⟨rfl, hd9⟩
              have hW9 := Lib.hid (hW8.out.call (Drawn0.below ⟨hd9⟩))
              clear hd9 hsv
              generalize escB sv = ev at *
              have hq2 : (t2 ++ ⟨#[32]⟩).size + ev.size ≤ 9223372036854775807 := by rw [ByteArray.size_append]; exact hz3
              go_wp2
              go_roundg gk2
              case rel => exact ⟨k2 + 1, (t2 ++ ⟨#[32]⟩) ++ ev, by go_num, rfl, by omega, HZ3.out, Lib.hid HT3.out.symm, hW9⟩
              case measure => omega
            · obtain rfl : ss = k2 := by omega
              have hq1 : t2.size + 1 ≤ 9223372036854775807 := by omega
              have HF : Hid (t2 ++ ⟨#[10]⟩ = ⟨(((wd.data.toList ++ numsL ns (6)) ++ textsL S (ss)) ++ [10]).toArray⟩) := by
                show _ = _
                rw [HT2.out]; exact append_arr _ [10]
              go_wp2
              go_ret
              refine ⟨?_, HW2.out.below⟩
              have e2 : (if mo = 2 then max ss S.length else ss) = (ss) := by rw [if_neg hm2]
              have e3 : (⟨(((wd.data.toList ++ numsL ns (6)) ++ textsL S (ss)) ++ [10]).toArray⟩ : ByteArray) = res := by
                rw [HRES.out, e2]
                have h0 := HOO.out (by trivial); rw [← HNS.out]; simp only [if_true]; rw [if_neg (show ¬ mo = 1 by omega)]
              rw [← e3, ← HF.out]
              rfl
  | false =>
    by_cases hmo : mo = 1
    · by_cases hmn : nn < N.length
      · have m1 : ((mo : Int) == 1) = true := by rw [hmo]; rfl
        have m2 : decide ((N.length : Int) > (nn : Int)) = true := decide_eq_true (by omega)
        have HMO := Lib.hid hmo
        have HMN := Lib.hid hmn
        clear hmo
        go_wp2_with fail
        obtain ⟨wL, hwL, R, hR, rs, hrs, hWL⟩ : ∃ wL, w3.alloc (.cells #[.string wd, .int .i64 (nn : Int), .int .i64 (ss : Int), .int .i64 (mo : Int), .bool false] 104) = wL ∧ ∃ R, w3.heap.size = R ∧ ∃ rs, rs = #[.string wd, .int .i64 (nn : Int), .int .i64 (ss : Int), .int .i64 (mo : Int), .bool false] ∧ (wL.heap[R]? = some (.cells rs 104 (0, 0)) ∧ wL.heap[w.heap.size]? = some (.cells #[.int .i64 x, .slice AN N.length cN, .slice AS S.length cS, .int .i64 o0, .int .i64 o1, .int .i64 o2, .int .i64 o3, .int .i64 o4, .int .i64 o5] 52 (0, 0)) ∧ Below w.heap.size w wL) :=
          ⟨_, rfl, _, rfl, _, rfl, heap_alloc_new w3 _, (Below.heap_alloc _ _ _ hlt).trans HA3.out, HB3.out.alloc HB3.out.size _⟩
        rw [hwL, hR]
        have HWL := Lib.hid hWL
        clear hwL hR hWL d1 d2 d3 d4 d5 d6 d7 d8 hlt HA3 HB3
        have HW : Hid (LWorld w.heap.size R #[.int .i64 x, .slice AN N.length cN, .slice AS S.length cS, .int .i64 o0, .int .i64 o1, .int .i64 o2, .int .i64 o3, .int .i64 o4, .int .i64 o5] rs AN N w wL) := ⟨HWL.out.1, HWL.out.2.1, Kd.C_below HN.out HWL.out.2.2, HWL.out.2.2⟩
        have HRS := Lib.hid hrs
        clear hrs HWL
        go_loopg [4, 7] (N.length) (fun gk v4 v7 wr => ∃ (k : Nat) (t : ByteArray), v7 = .int .i64 k ∧ v4 = .string t ∧ gk + k = N.length ∧ t.size ≤ 100 + 21 * k ∧ Hid (t = ⟨(wd.data.toList ++ numsL N k).toArray⟩) ∧ Hid (LWorld w.heap.size R #[.int .i64 x, .slice AN N.length cN, .slice AS S.length cS, .int .i64 o0, .int .i64 o1, .int .i64 o2, .int .i64 o3, .int .i64 o4, .int .i64 o5] rs AN N w wr))
        case atStart => exact ⟨0, wd, rfl, rfl, by omega, by omega, by show _ = _; simp [numsL], HW⟩
        case round =>
          clear HW
          obtain ⟨k, t, rfl, rfl, hgk, ht, HT, HW⟩ := hrel
          by_cases hk : k < N.length
          · obtain ⟨gk', rfl⟩ : ∃ m, gk = m + 1 := ⟨gk - 1, by omega⟩
            have hv := HNr.out k
            have HV := Lib.hid hv
            have hds := decB_size (N.getD k 0) hv.1 hv.2
            have HT3 : Hid (⟨(wd.data.toList ++ numsL N (k + 1)).toArray⟩ = (t ++ ⟨#[32]⟩) ++ decB (N.getD k 0)) := by
              show _ = _
              rw [HT.out, append_arr _ [32]]
              show _ = _ ++ (⟨(decL _).toArray⟩ : ByteArray)
              rw [append_arr]; simp [numsL]
            have hq1 : t.size + 1 ≤ 9223372036854775807 := by omega
            by_cases hkl : k < N.length
            · have hkl2 : (k : Int) < (N.length : Int) := by omega
              obtain ⟨ad, e, hel⟩ := Kd.at_int HW.out.nums (k : Int) (by omega) (by omega)
              subst e
              have hel2 : wr.cell? (ad.add k) = some (.int .i64 (N.getD k 0)) := by simpa [rd] using hel
              clear hel hv
              generalize N.getD k 0 = nv at *
              go_wp2_with fail
              refine (rdec_calls nv _ HV.out.1 HV.out.2).mono ?_
              rintro e w7 ⟨rfl, hd7⟩
              have hW7 := Lib.hid (HW.out.call hd7.below)
              clear hd7 hel2
              generalize decB nv = dv at *
              have hq2 : (t ++ ⟨#[32]⟩).size + dv.size ≤ 9223372036854775807 := by rw [ByteArray.size_append]; have : (⟨#[32]⟩ : ByteArray).size = 1 := rfl; omega
              have hq3 : t.size + 1 + dv.size ≤ 9223372036854775807 := by omega
              have HZ : Hid (((t ++ ⟨#[32]⟩) ++ dv).size ≤ 100 + 21 * (k + 1)) := by
                show _ ≤ _
                rw [ByteArray.size_append, ByteArray.size_append]; have : (⟨#[32]⟩ : ByteArray).size = 1 := rfl; omega
              go_wp2
              go_roundg gk'
              case rel => exact ⟨k + 1, (t ++ ⟨#[32]⟩) ++ dv, by go_num, rfl, by omega, HZ.out, Lib.hid HT3.out.symm, hW7⟩
              case measure => omega
            · exact absurd hk hkl
          · obtain rfl : N.length = k := by omega
            have e2 : wr.cell? ⟨w.heap.size, 2, none⟩ = some (.slice AS S.length cS) := cell_of_row wr _ 2 _ _ _ HW.out.step
            have r2 : wr.cell? ⟨R, 2, none⟩ = some (.int .i64 (ss : Int)) := cell_of_row wr _ 2 _ _ _ (by have := HW.out.row; rw [HRS.out] at this; exact this)
            have r3 : wr.cell? ⟨R, 3, none⟩ = some (.int .i64 (mo : Int)) := cell_of_row wr _ 3 _ _ _ (by have := HW.out.row; rw [HRS.out] at this; exact this)
            have ht9 : t.size ≤ 100000000000 := by omega
            clear ht
            by_cases hm2 : mo = 2
            · have q1 : ((mo : Int) == 2) = true := by rw [hm2]; rfl
              by_cases hm3 : ss < S.length
              · have q2 : decide ((S.length : Int) > (ss : Int)) = true := decide_eq_true (by omega)
                have HM := Lib.hid hm2
                clear hm2
                go_wp2_with fail
                have hu0 := decL_len
                clear hu0
                go_loopg [4, 10] (S.length) (fun gk v4 v10 wr => ∃ (k : Nat) (t : ByteArray), v10 = .int .i64 k ∧ v4 = .string t ∧ gk + k = S.length ∧ t.size ≤ 200000000000000 ∧ Hid (t = ⟨((wd.data.toList ++ numsL N (N.length)) ++ textsL S k).toArray⟩) ∧ Hid (LWorld w.heap.size R #[.int .i64 x, .slice AN N.length cN, .slice AS S.length cS, .int .i64 o0, .int .i64 o1, .int .i64 o2, .int .i64 o3, .int .i64 o4, .int .i64 o5] rs AN N w wr))
                case atStart => exact ⟨0, t, rfl, rfl, by omega, by omega, by show _ = _; rw [HT.out]; simp [textsL], HW⟩
                case round =>
                  obtain ⟨k2, t2, rfl, rfl, hgk2, ht2, HT2, HW2⟩ := hrel
                  by_cases hk2 : k2 < S.length
                  · obtain ⟨gk2, rfl⟩ : ∃ m, gk = m + 1 := ⟨gk - 1, by omega⟩
                    have hlt2 : (k2 : Int) < (S.length : Int) := by omega
                    have e0 : wr.cell? ⟨w.heap.size, 0, none⟩ = some (.int .i64 x) := cell_of_row wr _ 0 _ _ _ HW2.out.step
                    have e1 : wr.cell? ⟨w.heap.size, 1, none⟩ = some (.slice AN N.length cN) := cell_of_row wr _ 1 _ _ _ HW2.out.step
                    have e2 : wr.cell? ⟨w.heap.size, 2, none⟩ = some (.slice AS S.length cS) := cell_of_row wr _ 2 _ _ _ HW2.out.step
                    have e3 : wr.cell? ⟨w.heap.size, 3, none⟩ = some (.int .i64 o0) := cell_of_row wr _ 3 _ _ _ HW2.out.step
                    have e4 : wr.cell? ⟨w.heap.size, 4, none⟩ = some (.int .i64 o1) := cell_of_row wr _ 4 _ _ _ HW2.out.step
                    have e5 : wr.cell? ⟨w.heap.size, 5, none⟩ = some (.int .i64 o2) := cell_of_row wr _ 5 _ _ _ HW2.out.step
                    have e6 : wr.cell? ⟨w.heap.size, 6, none⟩ = some (.int .i64 o3) := cell_of_row wr _ 6 _ _ _ HW2.out.step
                    have e7 : wr.cell? ⟨w.heap.size, 7, none⟩ = some (.int .i64 o4) := cell_of_row wr _ 7 _ _ _ HW2.out.step
                    have e8 : wr.cell? ⟨w.heap.size, 8, none⟩ = some (.int .i64 o5) := cell_of_row wr _ 8 _ _ _ HW2.out.step
                    have hq1 : t2.size + 1 ≤ 9223372036854775807 := by omega
                    have hsv := HSr.out k2
                    have hle := HLEN.out (k2 + 1) (by have := HM.out; rw [if_pos this]; omega)
                    have hnl := numsL_len N HNr.out (N.length)
                    have hT3 : ⟨((wd.data.toList ++ numsL N (N.length)) ++ textsL S (k2 + 1)).toArray⟩ = (t2 ++ ⟨#[32]⟩) ++ escB (S.getD k2 ByteArray.empty) := by
                      rw [HT2.out, append_arr _ [32]]
                      show _ = _ ++ (⟨(escL _).toArray⟩ : ByteArray)
                      rw [append_arr]; simp [textsL]
                    have HT3 := Lib.hid hT3
                    have hsz3 : ((t2 ++ ⟨#[32]⟩) ++ escB (S.getD k2 ByteArray.empty)).size ≤ 200000000000000 := by
                      rw [← hT3, size_arr, List.length_append, List.length_append, dsize]; omega
                    have hwf : annalsref30_Word.f x N S o0 o1 o2 o3 o4 o5 (k2 : Int) = some (S.getD k2 ByteArray.empty) := by
                      have := word_f S k2
                      unfold play_word.f at this
                      unfold annalsref30_Word.f
                      exact this
                    have HWF := Lib.hid hwf
                    have hz3 : t2.size + 1 + (escB (S.getD k2 ByteArray.empty)).size ≤ 9223372036854775807 := by
                      rw [ByteArray.size_append, ByteArray.size_append] at hsz3
                      have : (⟨#[32]⟩ : ByteArray).size = 1 := rfl
                      omega
                    have HZ3 := Lib.hid hsz3
                    clear hT3 hwf hsz3 hnl hle
                    generalize S.getD k2 ByteArray.empty = sv at *
                    go_wp2_with fail
                    refine (annalsref30_Word.calls x AN cN N AS cS S o0 o1 o2 o3 o4 o5 (k2 : Int) sv _ (Kd.C_below HN.out HW2.out.below) hcN (Kd.C_below HS.out HW2.out.below) hcS HWF.out).mono ?_
                    rintro e w8 ⟨rfl, hb8⟩
                    have hW8 := Lib.hid (HW2.out.call hb8)
                    clear hb8 e0 e1 e2 e3 e4 e5 e6 e7 e8
                    go_wp2_with fail
                    refine (resc_calls sv _ hsv).mono ?_
                    rintro e w9 ⟨rfl, hd9⟩
                    have hW9 := Lib.hid (hW8.out.call (Drawn0.below ⟨hd9⟩))
                    clear hd9 hsv
                    generalize escB sv = ev at *
                    have hq2 : (t2 ++ ⟨#[32]⟩).size + ev.size ≤ 9223372036854775807 := by rw [ByteArray.size_append]; exact hz3
                    go_wp2
                    go_roundg gk2
                    case rel => exact ⟨k2 + 1, (t2 ++ ⟨#[32]⟩) ++ ev, by go_num, rfl, by omega, HZ3.out, Lib.hid HT3.out.symm, hW9⟩
                    case measure => omega
                  · obtain rfl : S.length = k2 := by omega
                    have hq1 : t2.size + 1 ≤ 9223372036854775807 := by omega
                    have HF : Hid (t2 ++ ⟨#[10]⟩ = ⟨(((wd.data.toList ++ numsL N (N.length)) ++ textsL S (S.length)) ++ [10]).toArray⟩) := by
                      show _ = _
                      rw [HT2.out]; exact append_arr _ [10]
                    go_wp2
                    go_ret
                    refine ⟨?_, HW2.out.below⟩
                    have e2 : (if mo = 2 then max ss S.length else ss) = (S.length) := by have := HM.out; rw [if_pos this]; omega
                    have e3 : (⟨(((wd.data.toList ++ numsL N (N.length)) ++ textsL S (S.length)) ++ [10]).toArray⟩ : ByteArray) = res := by
                      rw [HRES.out, e2]
                      have h0 := HMO.out; have h1 := HMN.out; simp only [Bool.false_eq_true, if_false]; rw [if_pos h0, Nat.max_eq_right (by omega)]
                    rw [← e3, ← HF.out]
                    rfl
              · have q2 : decide ((S.length : Int) > (ss : Int)) = false := decide_eq_false (by omega)
                have HM := Lib.hid hm2
                clear hm2
                go_wp2_with fail
                have hu0 := decL_len
                clear hu0
                go_loopg [4, 10] (ss) (fun gk v4 v10 wr => ∃ (k : Nat) (t : ByteArray), v10 = .int .i64 k ∧ v4 = .string t ∧ gk + k = ss ∧ t.size ≤ 200000000000000 ∧ Hid (t = ⟨((wd.data.toList ++ numsL N (N.length)) ++ textsL S k).toArray⟩) ∧ Hid (LWorld w.heap.size R #[.int .i64 x, .slice AN N.length cN, .slice AS S.length cS, .int .i64 o0, .int .i64 o1, .int .i64 o2, .int .i64 o3, .int .i64 o4, .int .i64 o5] rs AN N w wr))
                case atStart => exact ⟨0, t, rfl, rfl, by omega, by omega, by show _ = _; rw [HT.out]; simp [textsL], HW⟩
                case round =>
                  obtain ⟨k2, t2, rfl, rfl, hgk2, ht2, HT2, HW2⟩ := hrel
                  by_cases hk2 : k2 < ss
                  · obtain ⟨gk2, rfl⟩ : ∃ m, gk = m + 1 := ⟨gk - 1, by omega⟩
                    have hlt2 : (k2 : Int) < (ss : Int) := by omega
                    have e0 : wr.cell? ⟨w.heap.size, 0, none⟩ = some (.int .i64 x) := cell_of_row wr _ 0 _ _ _ HW2.out.step
                    have e1 : wr.cell? ⟨w.heap.size, 1, none⟩ = some (.slice AN N.length cN) := cell_of_row wr _ 1 _ _ _ HW2.out.step
                    have e2 : wr.cell? ⟨w.heap.size, 2, none⟩ = some (.slice AS S.length cS) := cell_of_row wr _ 2 _ _ _ HW2.out.step
                    have e3 : wr.cell? ⟨w.heap.size, 3, none⟩ = some (.int .i64 o0) := cell_of_row wr _ 3 _ _ _ HW2.out.step
                    have e4 : wr.cell? ⟨w.heap.size, 4, none⟩ = some (.int .i64 o1) := cell_of_row wr _ 4 _ _ _ HW2.out.step
                    have e5 : wr.cell? ⟨w.heap.size, 5, none⟩ = some (.int .i64 o2) := cell_of_row wr _ 5 _ _ _ HW2.out.step
                    have e6 : wr.cell? ⟨w.heap.size, 6, none⟩ = some (.int .i64 o3) := cell_of_row wr _ 6 _ _ _ HW2.out.step
                    have e7 : wr.cell? ⟨w.heap.size, 7, none⟩ = some (.int .i64 o4) := cell_of_row wr _ 7 _ _ _ HW2.out.step
                    have e8 : wr.cell? ⟨w.heap.size, 8, none⟩ = some (.int .i64 o5) := cell_of_row wr _ 8 _ _ _ HW2.out.step
                    have hq1 : t2.size + 1 ≤ 9223372036854775807 := by omega
                    have hsv := HSr.out k2
                    have hle := HLEN.out (k2 + 1) (by have := HM.out; rw [if_pos this]; omega)
                    have hnl := numsL_len N HNr.out (N.length)
                    have hT3 : ⟨((wd.data.toList ++ numsL N (N.length)) ++ textsL S (k2 + 1)).toArray⟩ = (t2 ++ ⟨#[32]⟩) ++ escB (S.getD k2 ByteArray.empty) := by
                      rw [HT2.out, append_arr _ [32]]
                      show _ = _ ++ (⟨(escL _).toArray⟩ : ByteArray)
                      rw [append_arr]; simp [textsL]
                    have HT3 := Lib.hid hT3
                    have hsz3 : ((t2 ++ ⟨#[32]⟩) ++ escB (S.getD k2 ByteArray.empty)).size ≤ 200000000000000 := by
                      rw [← hT3, size_arr, List.length_append, List.length_append, dsize]; omega
                    have hwf : annalsref30_Word.f x N S o0 o1 o2 o3 o4 o5 (k2 : Int) = some (S.getD k2 ByteArray.empty) := by
                      have := word_f S k2
                      unfold play_word.f at this
                      unfold annalsref30_Word.f
                      exact this
                    have HWF := Lib.hid hwf
                    have hz3 : t2.size + 1 + (escB (S.getD k2 ByteArray.empty)).size ≤ 9223372036854775807 := by
                      rw [ByteArray.size_append, ByteArray.size_append] at hsz3
                      have : (⟨#[32]⟩ : ByteArray).size = 1 := rfl
                      omega
                    have HZ3 := Lib.hid hsz3
                    clear hT3 hwf hsz3 hnl hle
                    generalize S.getD k2 ByteArray.empty = sv at *
                    go_wp2_with fail
                    refine (annalsref30_Word.calls x AN cN N AS cS S o0 o1 o2 o3 o4 o5 (k2 : Int) sv _ (Kd.C_below HN.out HW2.out.below) hcN (Kd.C_below HS.out HW2.out.below) hcS HWF.out).mono ?_
                    rintro e w8 ⟨rfl, hb8⟩
                    have hW8 := Lib.hid (HW2.out.call hb8)
                    clear hb8 e0 e1 e2 e3 e4 e5 e6 e7 e8
                    go_wp2_with fail
                    refine (resc_calls sv _ hsv).mono ?_
                    rintro e w9 ⟨rfl, hd9⟩
                    have hW9 := Lib.hid (hW8.out.call (Drawn0.below ⟨hd9⟩))
                    clear hd9 hsv
                    generalize escB sv = ev at *
                    have hq2 : (t2 ++ ⟨#[32]⟩).size + ev.size ≤ 9223372036854775807 := by rw [ByteArray.size_append]; exact hz3
                    go_wp2
                    go_roundg gk2
                    case rel => exact ⟨k2 + 1, (t2 ++ ⟨#[32]⟩) ++ ev, by go_num, rfl, by omega, HZ3.out, Lib.hid HT3.out.symm, hW9⟩
                    case measure => omega
                  · obtain rfl : ss = k2 := by omega
                    have hq1 : t2.size + 1 ≤ 9223372036854775807 := by omega
                    have HF : Hid (t2 ++ ⟨#[10]⟩ = ⟨(((wd.data.toList ++ numsL N (N.length)) ++ textsL S (ss)) ++ [10]).toArray⟩) := by
                      show _ = _
                      rw [HT2.out]; exact append_arr _ [10]
                    go_wp2
                    go_ret
                    refine ⟨?_, HW2.out.below⟩
                    have e2 : (if mo = 2 then max ss S.length else ss) = (ss) := by have := HM.out; rw [if_pos this]; omega
                    have e3 : (⟨(((wd.data.toList ++ numsL N (N.length)) ++ textsL S (ss)) ++ [10]).toArray⟩ : ByteArray) = res := by
                      rw [HRES.out, e2]
                      have h0 := HMO.out; have h1 := HMN.out; simp only [Bool.false_eq_true, if_false]; rw [if_pos h0, Nat.max_eq_right (by omega)]
                    rw [← e3, ← HF.out]
                    rfl
            · have q1 : ((mo : Int) == 2) = false := by rw [beq_eq_false_iff_ne]; omega
              go_wp2_with fail
              have hu0 := decL_len
              clear hu0
              go_loopg [4, 10] (ss) (fun gk v4 v10 wr => ∃ (k : Nat) (t : ByteArray), v10 = .int .i64 k ∧ v4 = .string t ∧ gk + k = ss ∧ t.size ≤ 200000000000000 ∧ Hid (t = ⟨((wd.data.toList ++ numsL N (N.length)) ++ textsL S k).toArray⟩) ∧ Hid (LWorld w.heap.size R #[.int .i64 x, .slice AN N.length cN, .slice AS S.length cS, .int .i64 o0, .int .i64 o1, .int .i64 o2, .int .i64 o3, .int .i64 o4, .int .i64 o5] rs AN N w wr))
              case atStart => exact ⟨0, t, rfl, rfl, by omega, by omega, by show _ = _; rw [HT.out]; simp [textsL], HW⟩
              case round =>
                obtain ⟨k2, t2, rfl, rfl, hgk2, ht2, HT2, HW2⟩ := hrel
                by_cases hk2 : k2 < ss
                · obtain ⟨gk2, rfl⟩ : ∃ m, gk = m + 1 := ⟨gk - 1, by omega⟩
                  have hlt2 : (k2 : Int) < (ss : Int) := by omega
                  have e0 : wr.cell? ⟨w.heap.size, 0, none⟩ = some (.int .i64 x) := cell_of_row wr _ 0 _ _ _ HW2.out.step
                  have e1 : wr.cell? ⟨w.heap.size, 1, none⟩ = some (.slice AN N.length cN) := cell_of_row wr _ 1 _ _ _ HW2.out.step
                  have e2 : wr.cell? ⟨w.heap.size, 2, none⟩ = some (.slice AS S.length cS) := cell_of_row wr _ 2 _ _ _ HW2.out.step
                  have e3 : wr.cell? ⟨w.heap.size, 3, none⟩ = some (.int .i64 o0) := cell_of_row wr _ 3 _ _ _ HW2.out.step
                  have e4 : wr.cell? ⟨w.heap.size, 4, none⟩ = some (.int .i64 o1) := cell_of_row wr _ 4 _ _ _ HW2.out.step
                  have e5 : wr.cell? ⟨w.heap.size, 5, none⟩ = some (.int .i64 o2) := cell_of_row wr _ 5 _ _ _ HW2.out.step
                  have e6 : wr.cell? ⟨w.heap.size, 6, none⟩ = some (.int .i64 o3) := cell_of_row wr _ 6 _ _ _ HW2.out.step
                  have e7 : wr.cell? ⟨w.heap.size, 7, none⟩ = some (.int .i64 o4) := cell_of_row wr _ 7 _ _ _ HW2.out.step
                  have e8 : wr.cell? ⟨w.heap.size, 8, none⟩ = some (.int .i64 o5) := cell_of_row wr _ 8 _ _ _ HW2.out.step
                  have hq1 : t2.size + 1 ≤ 9223372036854775807 := by omega
                  have hsv := HSr.out k2
                  have hle := HLEN.out (k2 + 1) (by rw [if_neg hm2]; omega)
                  have hnl := numsL_len N HNr.out (N.length)
                  have hT3 : ⟨((wd.data.toList ++ numsL N (N.length)) ++ textsL S (k2 + 1)).toArray⟩ = (t2 ++ ⟨#[32]⟩) ++ escB (S.getD k2 ByteArray.empty) := by
                    rw [HT2.out, append_arr _ [32]]
                    show _ = _ ++ (⟨(escL _).toArray⟩ : ByteArray)
                    rw [append_arr]; simp [textsL]
                  have HT3 := Lib.hid hT3
                  have hsz3 : ((t2 ++ ⟨#[32]⟩) ++ escB (S.getD k2 ByteArray.empty)).size ≤ 200000000000000 := by
                    rw [← hT3, size_arr, List.length_append, List.length_append, dsize]; omega
                  have hwf : annalsref30_Word.f x N S o0 o1 o2 o3 o4 o5 (k2 : Int) = some (S.getD k2 ByteArray.empty) := by
                    have := word_f S k2
                    unfold play_word.f at this
                    unfold annalsref30_Word.f
                    exact this
                  have HWF := Lib.hid hwf
                  have hz3 : t2.size + 1 + (escB (S.getD k2 ByteArray.empty)).size ≤ 9223372036854775807 := by
                    rw [ByteArray.size_append, ByteArray.size_append] at hsz3
                    have : (⟨#[32]⟩ : ByteArray).size = 1 := rfl
                    omega
                  have HZ3 := Lib.hid hsz3
                  clear hT3 hwf hsz3 hnl hle
                  generalize S.getD k2 ByteArray.empty = sv at *
                  go_wp2_with fail
                  refine (annalsref30_Word.calls x AN cN N AS cS S o0 o1 o2 o3 o4 o5 (k2 : Int) sv _ (Kd.C_below HN.out HW2.out.below) hcN (Kd.C_below HS.out HW2.out.below) hcS HWF.out).mono ?_
                  rintro e w8 ⟨rfl, hb8⟩
                  have hW8 := Lib.hid (HW2.out.call hb8)
                  clear hb8 e0 e1 e2 e3 e4 e5 e6 e7 e8
                  go_wp2_with fail
                  refine (resc_calls sv _ hsv).mono ?_
                  rintro e w9 ⟨rfl, hd9⟩
                  have hW9 := Lib.hid (hW8.out.call (Drawn0.below ⟨hd9⟩))
                  clear hd9 hsv
                  generalize escB sv = ev at *
                  have hq2 : (t2 ++ ⟨#[32]⟩).size + ev.size ≤ 9223372036854775807 := by rw [ByteArray.size_append]; exact hz3
                  go_wp2
                  go_roundg gk2
                  case rel => exact ⟨k2 + 1, (t2 ++ ⟨#[32]⟩) ++ ev, by go_num, rfl, by omega, HZ3.out, Lib.hid HT3.out.symm, hW9⟩
                  case measure => omega
                · obtain rfl : ss = k2 := by omega
                  have hq1 : t2.size + 1 ≤ 9223372036854775807 := by omega
                  have HF : Hid (t2 ++ ⟨#[10]⟩ = ⟨(((wd.data.toList ++ numsL N (N.length)) ++ textsL S (ss)) ++ [10]).toArray⟩) := by
                    show _ = _
                    rw [HT2.out]; exact append_arr _ [10]
                  go_wp2
                  go_ret
                  refine ⟨?_, HW2.out.below⟩
                  have e2 : (if mo = 2 then max ss S.length else ss) = (ss) := by rw [if_neg hm2]
                  have e3 : (⟨(((wd.data.toList ++ numsL N (N.length)) ++ textsL S (ss)) ++ [10]).toArray⟩ : ByteArray) = res := by
                    rw [HRES.out, e2]
                    have h0 := HMO.out; have h1 := HMN.out; simp only [Bool.false_eq_true, if_false]; rw [if_pos h0, Nat.max_eq_right (by omega)]
                  rw [← e3, ← HF.out]
                  rfl
      · have m1 : ((mo : Int) == 1) = true := by rw [hmo]; rfl
        have m2 : decide ((N.length : Int) > (nn : Int)) = false := decide_eq_false (by omega)
        have HMO := Lib.hid hmo
        have HMN := Lib.hid hmn
        clear hmo
        go_wp2_with fail
        obtain ⟨wL, hwL, R, hR, rs, hrs, hWL⟩ : ∃ wL, w3.alloc (.cells #[.string wd, .int .i64 (nn : Int), .int .i64 (ss : Int), .int .i64 (mo : Int), .bool false] 104) = wL ∧ ∃ R, w3.heap.size = R ∧ ∃ rs, rs = #[.string wd, .int .i64 (nn : Int), .int .i64 (ss : Int), .int .i64 (mo : Int), .bool false] ∧ (wL.heap[R]? = some (.cells rs 104 (0, 0)) ∧ wL.heap[w.heap.size]? = some (.cells #[.int .i64 x, .slice AN N.length cN, .slice AS S.length cS, .int .i64 o0, .int .i64 o1, .int .i64 o2, .int .i64 o3, .int .i64 o4, .int .i64 o5] 52 (0, 0)) ∧ Below w.heap.size w wL) :=
          ⟨_, rfl, _, rfl, _, rfl, heap_alloc_new w3 _, (Below.heap_alloc _ _ _ hlt).trans HA3.out, HB3.out.alloc HB3.out.size _⟩
        rw [hwL, hR]
        have HWL := Lib.hid hWL
        clear hwL hR hWL d1 d2 d3 d4 d5 d6 d7 d8 hlt HA3 HB3
        have HW : Hid (LWorld w.heap.size R #[.int .i64 x, .slice AN N.length cN, .slice AS S.length cS, .int .i64 o0, .int .i64 o1, .int .i64 o2, .int .i64 o3, .int .i64 o4, .int .i64 o5] rs AN N w wL) := ⟨HWL.out.1, HWL.out.2.1, Kd.C_below HN.out HWL.out.2.2, HWL.out.2.2⟩
        have HRS := Lib.hid hrs
        clear hrs HWL
        go_loopg [4, 7] (nn) (fun gk v4 v7 wr => ∃ (k : Nat) (t : ByteArray), v7 = .int .i64 k ∧ v4 = .string t ∧ gk + k = nn ∧ t.size ≤ 100 + 21 * k ∧ Hid (t = ⟨(wd.data.toList ++ numsL N k).toArray⟩) ∧ Hid (LWorld w.heap.size R #[.int .i64 x, .slice AN N.length cN, .slice AS S.length cS, .int .i64 o0, .int .i64 o1, .int .i64 o2, .int .i64 o3, .int .i64 o4, .int .i64 o5] rs AN N w wr))
        case atStart => exact ⟨0, wd, rfl, rfl, by omega, by omega, by show _ = _; simp [numsL], HW⟩
        case round =>
          clear HW
          obtain ⟨k, t, rfl, rfl, hgk, ht, HT, HW⟩ := hrel
          by_cases hk : k < nn
          · obtain ⟨gk', rfl⟩ : ∃ m, gk = m + 1 := ⟨gk - 1, by omega⟩
            have hv := HNr.out k
            have HV := Lib.hid hv
            have hds := decB_size (N.getD k 0) hv.1 hv.2
            have HT3 : Hid (⟨(wd.data.toList ++ numsL N (k + 1)).toArray⟩ = (t ++ ⟨#[32]⟩) ++ decB (N.getD k 0)) := by
              show _ = _
              rw [HT.out, append_arr _ [32]]
              show _ = _ ++ (⟨(decL _).toArray⟩ : ByteArray)
              rw [append_arr]; simp [numsL]
            have hq1 : t.size + 1 ≤ 9223372036854775807 := by omega
            by_cases hkl : k < N.length
            · have hkl2 : (k : Int) < (N.length : Int) := by omega
              obtain ⟨ad, e, hel⟩ := Kd.at_int HW.out.nums (k : Int) (by omega) (by omega)
              subst e
              have hel2 : wr.cell? (ad.add k) = some (.int .i64 (N.getD k 0)) := by simpa [rd] using hel
              clear hel hv
              generalize N.getD k 0 = nv at *
              go_wp2_with fail
              refine (rdec_calls nv _ HV.out.1 HV.out.2).mono ?_
              rintro e w7 ⟨rfl, hd7⟩
              have hW7 := Lib.hid (HW.out.call hd7.below)
              clear hd7 hel2
              generalize decB nv = dv at *
              have hq2 : (t ++ ⟨#[32]⟩).size + dv.size ≤ 9223372036854775807 := by rw [ByteArray.size_append]; have : (⟨#[32]⟩ : ByteArray).size = 1 := rfl; omega
              have hq3 : t.size + 1 + dv.size ≤ 9223372036854775807 := by omega
              have HZ : Hid (((t ++ ⟨#[32]⟩) ++ dv).size ≤ 100 + 21 * (k + 1)) := by
                show _ ≤ _
                rw [ByteArray.size_append, ByteArray.size_append]; have : (⟨#[32]⟩ : ByteArray).size = 1 := rfl; omega
              go_wp2
              go_roundg gk'
              case rel => exact ⟨k + 1, (t ++ ⟨#[32]⟩) ++ dv, by go_num, rfl, by omega, HZ.out, Lib.hid HT3.out.symm, hW7⟩
              case measure => omega
            · have hkl2 : ¬ (k : Int) < (N.length : Int) := by omega
              have hz : N.getD k 0 = 0 := by rw [List.getD_eq_getElem?_getD, List.getElem?_eq_none (by omega)]; rfl
              rw [hz] at HT3 hds HV
              clear hz hv
              go_wp2_with fail
              refine (rdec_calls 0 _ (by omega) (by omega)).mono ?_
              rintro e w7 ⟨rfl, hd7⟩
              have hW7 := Lib.hid (HW.out.call hd7.below)
              clear hd7
              generalize decB 0 = dv at *
              have hq2 : (t ++ ⟨#[32]⟩).size + dv.size ≤ 9223372036854775807 := by rw [ByteArray.size_append]; have : (⟨#[32]⟩ : ByteArray).size = 1 := rfl; omega
              have hq3 : t.size + 1 + dv.size ≤ 9223372036854775807 := by omega
              have HZ : Hid (((t ++ ⟨#[32]⟩) ++ dv).size ≤ 100 + 21 * (k + 1)) := by
                show _ ≤ _
                rw [ByteArray.size_append, ByteArray.size_append]; have : (⟨#[32]⟩ : ByteArray).size = 1 := rfl; omega
              go_wp2
              go_roundg gk'
              case rel => exact ⟨k + 1, (t ++ ⟨#[32]⟩) ++ dv, by go_num, rfl, by omega, HZ.out, Lib.hid HT3.out.symm, hW7⟩
              case measure => omega
          · obtain rfl : nn = k := by omega
            have e2 : wr.cell? ⟨w.heap.size, 2, none⟩ = some (.slice AS S.length cS) := cell_of_row wr _ 2 _ _ _ HW.out.step
            have r2 : wr.cell? ⟨R, 2, none⟩ = some (.int .i64 (ss : Int)) := cell_of_row wr _ 2 _ _ _ (by have := HW.out.row; rw [HRS.out] at this; exact this)
            have r3 : wr.cell? ⟨R, 3, none⟩ = some (.int .i64 (mo : Int)) := cell_of_row wr _ 3 _ _ _ (by have := HW.out.row; rw [HRS.out] at this; exact this)
            have ht9 : t.size ≤ 100000000000 := by omega
            clear ht
            by_cases hm2 : mo = 2
            · have q1 : ((mo : Int) == 2) = true := by rw [hm2]; rfl
              by_cases hm3 : ss < S.length
              · have q2 : decide ((S.length : Int) > (ss : Int)) = true := decide_eq_true (by omega)
                have HM := Lib.hid hm2
                clear hm2
                go_wp2_with fail
                have hu0 := decL_len
                clear hu0
                go_loopg [4, 10] (S.length) (fun gk v4 v10 wr => ∃ (k : Nat) (t : ByteArray), v10 = .int .i64 k ∧ v4 = .string t ∧ gk + k = S.length ∧ t.size ≤ 200000000000000 ∧ Hid (t = ⟨((wd.data.toList ++ numsL N (nn)) ++ textsL S k).toArray⟩) ∧ Hid (LWorld w.heap.size R #[.int .i64 x, .slice AN N.length cN, .slice AS S.length cS, .int .i64 o0, .int .i64 o1, .int .i64 o2, .int .i64 o3, .int .i64 o4, .int .i64 o5] rs AN N w wr))
                case atStart => exact ⟨0, t, rfl, rfl, by omega, by omega, by show _ = _; rw [HT.out]; simp [textsL], HW⟩
                case round =>
                  obtain ⟨k2, t2, rfl, rfl, hgk2, ht2, HT2, HW2⟩ := hrel
                  by_cases hk2 : k2 < S.length
                  · obtain ⟨gk2, rfl⟩ : ∃ m, gk = m + 1 := ⟨gk - 1, by omega⟩
                    have hlt2 : (k2 : Int) < (S.length : Int) := by omega
                    have e0 : wr.cell? ⟨w.heap.size, 0, none⟩ = some (.int .i64 x) := cell_of_row wr _ 0 _ _ _ HW2.out.step
                    have e1 : wr.cell? ⟨w.heap.size, 1, none⟩ = some (.slice AN N.length cN) := cell_of_row wr _ 1 _ _ _ HW2.out.step
                    have e2 : wr.cell? ⟨w.heap.size, 2, none⟩ = some (.slice AS S.length cS) := cell_of_row wr _ 2 _ _ _ HW2.out.step
                    have e3 : wr.cell? ⟨w.heap.size, 3, none⟩ = some (.int .i64 o0) := cell_of_row wr _ 3 _ _ _ HW2.out.step
                    have e4 : wr.cell? ⟨w.heap.size, 4, none⟩ = some (.int .i64 o1) := cell_of_row wr _ 4 _ _ _ HW2.out.step
                    have e5 : wr.cell? ⟨w.heap.size, 5, none⟩ = some (.int .i64 o2) := cell_of_row wr _ 5 _ _ _ HW2.out.step
                    have e6 : wr.cell? ⟨w.heap.size, 6, none⟩ = some (.int .i64 o3) := cell_of_row wr _ 6 _ _ _ HW2.out.step
                    have e7 : wr.cell? ⟨w.heap.size, 7, none⟩ = some (.int .i64 o4) := cell_of_row wr _ 7 _ _ _ HW2.out.step
                    have e8 : wr.cell? ⟨w.heap.size, 8, none⟩ = some (.int .i64 o5) := cell_of_row wr _ 8 _ _ _ HW2.out.step
                    have hq1 : t2.size + 1 ≤ 9223372036854775807 := by omega
                    have hsv := HSr.out k2
                    have hle := HLEN.out (k2 + 1) (by have := HM.out; rw [if_pos this]; omega)
                    have hnl := numsL_len N HNr.out (nn)
                    have hT3 : ⟨((wd.data.toList ++ numsL N (nn)) ++ textsL S (k2 + 1)).toArray⟩ = (t2 ++ ⟨#[32]⟩) ++ escB (S.getD k2 ByteArray.empty) := by
                      rw [HT2.out, append_arr _ [32]]
                      show _ = _ ++ (⟨(escL _).toArray⟩ : ByteArray)
                      rw [append_arr]; simp [textsL]
                    have HT3 := Lib.hid hT3
                    have hsz3 : ((t2 ++ ⟨#[32]⟩) ++ escB (S.getD k2 ByteArray.empty)).size ≤ 200000000000000 := by
                      rw [← hT3, size_arr, List.length_append, List.length_append, dsize]; omega
                    have hwf : annalsref30_Word.f x N S o0 o1 o2 o3 o4 o5 (k2 : Int) = some (S.getD k2 ByteArray.empty) := by
                      have := word_f S k2
                      unfold play_word.f at this
                      unfold annalsref30_Word.f
                      exact this
                    have HWF := Lib.hid hwf
                    have hz3 : t2.size + 1 + (escB (S.getD k2 ByteArray.empty)).size ≤ 9223372036854775807 := by
                      rw [ByteArray.size_append, ByteArray.size_append] at hsz3
                      have : (⟨#[32]⟩ : ByteArray).size = 1 := rfl
                      omega
                    have HZ3 := Lib.hid hsz3
                    clear hT3 hwf hsz3 hnl hle
                    generalize S.getD k2 ByteArray.empty = sv at *
                    go_wp2_with fail
                    refine (annalsref30_Word.calls x AN cN N AS cS S o0 o1 o2 o3 o4 o5 (k2 : Int) sv _ (Kd.C_below HN.out HW2.out.below) hcN (Kd.C_below HS.out HW2.out.below) hcS HWF.out).mono ?_
                    rintro e w8 ⟨rfl, hb8⟩
                    have hW8 := Lib.hid (HW2.out.call hb8)
                    clear hb8 e0 e1 e2 e3 e4 e5 e6 e7 e8
                    go_wp2_with fail
                    refine (resc_calls sv _ hsv).mono ?_
                    rintro e w9 ⟨rfl, hd9⟩
                    have hW9 := Lib.hid (hW8.out.call (Drawn0.below ⟨hd9⟩))
                    clear hd9 hsv
                    generalize escB sv = ev at *
                    have hq2 : (t2 ++ ⟨#[32]⟩).size + ev.size ≤ 9223372036854775807 := by rw [ByteArray.size_append]; exact hz3
                    go_wp2
                    go_roundg gk2
                    case rel => exact ⟨k2 + 1, (t2 ++ ⟨#[32]⟩) ++ ev, by go_num, rfl, by omega, HZ3.out, Lib.hid HT3.out.symm, hW9⟩
                    case measure => omega
                  · obtain rfl : S.length = k2 := by omega
                    have hq1 : t2.size + 1 ≤ 9223372036854775807 := by omega
                    have HF : Hid (t2 ++ ⟨#[10]⟩ = ⟨(((wd.data.toList ++ numsL N (nn)) ++ textsL S (S.length)) ++ [10]).toArray⟩) := by
                      show _ = _
                      rw [HT2.out]; exact append_arr _ [10]
                    go_wp2
                    go_ret
                    refine ⟨?_, HW2.out.below⟩
                    have e2 : (if mo = 2 then max ss S.length else ss) = (S.length) := by have := HM.out; rw [if_pos this]; omega
                    have e3 : (⟨(((wd.data.toList ++ numsL N (nn)) ++ textsL S (S.length)) ++ [10]).toArray⟩ : ByteArray) = res := by
                      rw [HRES.out, e2]
                      have h0 := HMO.out; have h1 := HMN.out; simp only [Bool.false_eq_true, if_false]; rw [if_pos h0, Nat.max_eq_left (by omega)]
                    rw [← e3, ← HF.out]
                    rfl
              · have q2 : decide ((S.length : Int) > (ss : Int)) = false := decide_eq_false (by omega)
                have HM := Lib.hid hm2
                clear hm2
                go_wp2_with fail
                have hu0 := decL_len
                clear hu0
                go_loopg [4, 10] (ss) (fun gk v4 v10 wr => ∃ (k : Nat) (t : ByteArray), v10 = .int .i64 k ∧ v4 = .string t ∧ gk + k = ss ∧ t.size ≤ 200000000000000 ∧ Hid (t = ⟨((wd.data.toList ++ numsL N (nn)) ++ textsL S k).toArray⟩) ∧ Hid (LWorld w.heap.size R #[.int .i64 x, .slice AN N.length cN, .slice AS S.length cS, .int .i64 o0, .int .i64 o1, .int .i64 o2, .int .i64 o3, .int .i64 o4, .int .i64 o5] rs AN N w wr))
                case atStart => exact ⟨0, t, rfl, rfl, by omega, by omega, by show _ = _; rw [HT.out]; simp [textsL], HW⟩
                case round =>
                  obtain ⟨k2, t2, rfl, rfl, hgk2, ht2, HT2, HW2⟩ := hrel
                  by_cases hk2 : k2 < ss
                  · obtain ⟨gk2, rfl⟩ : ∃ m, gk = m + 1 := ⟨gk - 1, by omega⟩
                    have hlt2 : (k2 : Int) < (ss : Int) := by omega
                    have e0 : wr.cell? ⟨w.heap.size, 0, none⟩ = some (.int .i64 x) := cell_of_row wr _ 0 _ _ _ HW2.out.step
                    have e1 : wr.cell? ⟨w.heap.size, 1, none⟩ = some (.slice AN N.length cN) := cell_of_row wr _ 1 _ _ _ HW2.out.step
                    have e2 : wr.cell? ⟨w.heap.size, 2, none⟩ = some (.slice AS S.length cS) := cell_of_row wr _ 2 _ _ _ HW2.out.step
                    have e3 : wr.cell? ⟨w.heap.size, 3, none⟩ = some (.int .i64 o0) := cell_of_row wr _ 3 _ _ _ HW2.out.step
                    have e4 : wr.cell? ⟨w.heap.size, 4, none⟩ = some (.int .i64 o1) := cell_of_row wr _ 4 _ _ _ HW2.out.step
                    have e5 : wr.cell? ⟨w.heap.size, 5, none⟩ = some (.int .i64 o2) := cell_of_row wr _ 5 _ _ _ HW2.out.step
                    have e6 : wr.cell? ⟨w.heap.size, 6, none⟩ = some (.int .i64 o3) := cell_of_row wr _ 6 _ _ _ HW2.out.step
                    have e7 : wr.cell? ⟨w.heap.size, 7, none⟩ = some (.int .i64 o4) := cell_of_row wr _ 7 _ _ _ HW2.out.step
                    have e8 : wr.cell? ⟨w.heap.size, 8, none⟩ = some (.int .i64 o5) := cell_of_row wr _ 8 _ _ _ HW2.out.step
                    have hq1 : t2.size + 1 ≤ 9223372036854775807 := by omega
                    have hsv := HSr.out k2
                    have hle := HLEN.out (k2 + 1) (by have := HM.out; rw [if_pos this]; omega)
                    have hnl := numsL_len N HNr.out (nn)
                    have hT3 : ⟨((wd.data.toList ++ numsL N (nn)) ++ textsL S (k2 + 1)).toArray⟩ = (t2 ++ ⟨#[32]⟩) ++ escB (S.getD k2 ByteArray.empty) := by
                      rw [HT2.out, append_arr _ [32]]
                      show _ = _ ++ (⟨(escL _).toArray⟩ : ByteArray)
                      rw [append_arr]; simp [textsL]
                    have HT3 := Lib.hid hT3
                    have hsz3 : ((t2 ++ ⟨#[32]⟩) ++ escB (S.getD k2 ByteArray.empty)).size ≤ 200000000000000 := by
                      rw [← hT3, size_arr, List.length_append, List.length_append, dsize]; omega
                    have hwf : annalsref30_Word.f x N S o0 o1 o2 o3 o4 o5 (k2 : Int) = some (S.getD k2 ByteArray.empty) := by
                      have := word_f S k2
                      unfold play_word.f at this
                      unfold annalsref30_Word.f
                      exact this
                    have HWF := Lib.hid hwf
                    have hz3 : t2.size + 1 + (escB (S.getD k2 ByteArray.empty)).size ≤ 9223372036854775807 := by
                      rw [ByteArray.size_append, ByteArray.size_append] at hsz3
                      have : (⟨#[32]⟩ : ByteArray).size = 1 := rfl
                      omega
                    have HZ3 := Lib.hid hsz3
                    clear hT3 hwf hsz3 hnl hle
                    generalize S.getD k2 ByteArray.empty = sv at *
                    go_wp2_with fail
                    refine (annalsref30_Word.calls x AN cN N AS cS S o0 o1 o2 o3 o4 o5 (k2 : Int) sv _ (Kd.C_below HN.out HW2.out.below) hcN (Kd.C_below HS.out HW2.out.below) hcS HWF.out).mono ?_
                    rintro e w8 ⟨rfl, hb8⟩
                    have hW8 := Lib.hid (HW2.out.call hb8)
                    clear hb8 e0 e1 e2 e3 e4 e5 e6 e7 e8
                    go_wp2_with fail
                    refine (resc_calls sv _ hsv).mono ?_
                    rintro e w9 ⟨rfl, hd9⟩
                    have hW9 := Lib.hid (hW8.out.call (Drawn0.below ⟨hd9⟩))
                    clear hd9 hsv
                    generalize escB sv = ev at *
                    have hq2 : (t2 ++ ⟨#[32]⟩).size + ev.size ≤ 9223372036854775807 := by rw [ByteArray.size_append]; exact hz3
                    go_wp2
                    go_roundg gk2
                    case rel => exact ⟨k2 + 1, (t2 ++ ⟨#[32]⟩) ++ ev, by go_num, rfl, by omega, HZ3.out, Lib.hid HT3.out.symm, hW9⟩
                    case measure => omega
                  · obtain rfl : ss = k2 := by omega
                    have hq1 : t2.size + 1 ≤ 9223372036854775807 := by omega
                    have HF : Hid (t2 ++ ⟨#[10]⟩ = ⟨(((wd.data.toList ++ numsL N (nn)) ++ textsL S (ss)) ++ [10]).toArray⟩) := by
                      show _ = _
                      rw [HT2.out]; exact append_arr _ [10]
                    go_wp2
                    go_ret
                    refine ⟨?_, HW2.out.below⟩
                    have e2 : (if mo = 2 then max ss S.length else ss) = (ss) := by have := HM.out; rw [if_pos this]; omega
                    have e3 : (⟨(((wd.data.toList ++ numsL N (nn)) ++ textsL S (ss)) ++ [10]).toArray⟩ : ByteArray) = res := by
                      rw [HRES.out, e2]
                      have h0 := HMO.out; have h1 := HMN.out; simp only [Bool.false_eq_true, if_false]; rw [if_pos h0, Nat.max_eq_left (by omega)]
                    rw [← e3, ← HF.out]
                    rfl
            · have q1 : ((mo : Int) == 2) = false := by rw [beq_eq_false_iff_ne]; omega
              go_wp2_with fail
              have hu0 := decL_len
              clear hu0
              go_loopg [4, 10] (ss) (fun gk v4 v10 wr => ∃ (k : Nat) (t : ByteArray), v10 = .int .i64 k ∧ v4 = .string t ∧ gk + k = ss ∧ t.size ≤ 200000000000000 ∧ Hid (t = ⟨((wd.data.toList ++ numsL N (nn)) ++ textsL S k).toArray⟩) ∧ Hid (LWorld w.heap.size R #[.int .i64 x, .slice AN N.length cN, .slice AS S.length cS, .int .i64 o0, .int .i64 o1, .int .i64 o2, .int .i64 o3, .int .i64 o4, .int .i64 o5] rs AN N w wr))
              case atStart => exact ⟨0, t, rfl, rfl, by omega, by omega, by show _ = _; rw [HT.out]; simp [textsL], HW⟩
              case round =>
                obtain ⟨k2, t2, rfl, rfl, hgk2, ht2, HT2, HW2⟩ := hrel
                by_cases hk2 : k2 < ss
                · obtain ⟨gk2, rfl⟩ : ∃ m, gk = m + 1 := ⟨gk - 1, by omega⟩
                  have hlt2 : (k2 : Int) < (ss : Int) := by omega
                  have e0 : wr.cell? ⟨w.heap.size, 0, none⟩ = some (.int .i64 x) := cell_of_row wr _ 0 _ _ _ HW2.out.step
                  have e1 : wr.cell? ⟨w.heap.size, 1, none⟩ = some (.slice AN N.length cN) := cell_of_row wr _ 1 _ _ _ HW2.out.step
                  have e2 : wr.cell? ⟨w.heap.size, 2, none⟩ = some (.slice AS S.length cS) := cell_of_row wr _ 2 _ _ _ HW2.out.step
                  have e3 : wr.cell? ⟨w.heap.size, 3, none⟩ = some (.int .i64 o0) := cell_of_row wr _ 3 _ _ _ HW2.out.step
                  have e4 : wr.cell? ⟨w.heap.size, 4, none⟩ = some (.int .i64 o1) := cell_of_row wr _ 4 _ _ _ HW2.out.step
                  have e5 : wr.cell? ⟨w.heap.size, 5, none⟩ = some (.int .i64 o2) := cell_of_row wr _ 5 _ _ _ HW2.out.step
                  have e6 : wr.cell? ⟨w.heap.size, 6, none⟩ = some (.int .i64 o3) := cell_of_row wr _ 6 _ _ _ HW2.out.step
                  have e7 : wr.cell? ⟨w.heap.size, 7, none⟩ = some (.int .i64 o4) := cell_of_row wr _ 7 _ _ _ HW2.out.step
                  have e8 : wr.cell? ⟨w.heap.size, 8, none⟩ = some (.int .i64 o5) := cell_of_row wr _ 8 _ _ _ HW2.out.step
                  have hq1 : t2.size + 1 ≤ 9223372036854775807 := by omega
                  have hsv := HSr.out k2
                  have hle := HLEN.out (k2 + 1) (by rw [if_neg hm2]; omega)
                  have hnl := numsL_len N HNr.out (nn)
                  have hT3 : ⟨((wd.data.toList ++ numsL N (nn)) ++ textsL S (k2 + 1)).toArray⟩ = (t2 ++ ⟨#[32]⟩) ++ escB (S.getD k2 ByteArray.empty) := by
                    rw [HT2.out, append_arr _ [32]]
                    show _ = _ ++ (⟨(escL _).toArray⟩ : ByteArray)
                    rw [append_arr]; simp [textsL]
                  have HT3 := Lib.hid hT3
                  have hsz3 : ((t2 ++ ⟨#[32]⟩) ++ escB (S.getD k2 ByteArray.empty)).size ≤ 200000000000000 := by
                    rw [← hT3, size_arr, List.length_append, List.length_append, dsize]; omega
                  have hwf : annalsref30_Word.f x N S o0 o1 o2 o3 o4 o5 (k2 : Int) = some (S.getD k2 ByteArray.empty) := by
                    have := word_f S k2
                    unfold play_word.f at this
                    unfold annalsref30_Word.f
                    exact this
                  have HWF := Lib.hid hwf
                  have hz3 : t2.size + 1 + (escB (S.getD k2 ByteArray.empty)).size ≤ 9223372036854775807 := by
                    rw [ByteArray.size_append, ByteArray.size_append] at hsz3
                    have : (⟨#[32]⟩ : ByteArray).size = 1 := rfl
                    omega
                  have HZ3 := Lib.hid hsz3
                  clear hT3 hwf hsz3 hnl hle
                  generalize S.getD k2 ByteArray.empty = sv at *
                  go_wp2_with fail
                  refine (annalsref30_Word.calls x AN cN N AS cS S o0 o1 o2 o3 o4 o5 (k2 : Int) sv _ (Kd.C_below HN.out HW2.out.below) hcN (Kd.C_below HS.out HW2.out.below) hcS HWF.out).mono ?_
                  rintro e w8 ⟨rfl, hb8⟩
                  have hW8 := Lib.hid (HW2.out.call hb8)
                  clear hb8 e0 e1 e2 e3 e4 e5 e6 e7 e8
                  go_wp2_with fail
                  refine (resc_calls sv _ hsv).mono ?_
                  rintro e w9 ⟨rfl, hd9⟩
                  have hW9 := Lib.hid (hW8.out.call (Drawn0.below ⟨hd9⟩))
                  clear hd9 hsv
                  generalize escB sv = ev at *
                  have hq2 : (t2 ++ ⟨#[32]⟩).size + ev.size ≤ 9223372036854775807 := by rw [ByteArray.size_append]; exact hz3
                  go_wp2
                  go_roundg gk2
                  case rel => exact ⟨k2 + 1, (t2 ++ ⟨#[32]⟩) ++ ev, by go_num, rfl, by omega, HZ3.out, Lib.hid HT3.out.symm, hW9⟩
                  case measure => omega
                · obtain rfl : ss = k2 := by omega
                  have hq1 : t2.size + 1 ≤ 9223372036854775807 := by omega
                  have HF : Hid (t2 ++ ⟨#[10]⟩ = ⟨(((wd.data.toList ++ numsL N (nn)) ++ textsL S (ss)) ++ [10]).toArray⟩) := by
                    show _ = _
                    rw [HT2.out]; exact append_arr _ [10]
                  go_wp2
                  go_ret
                  refine ⟨?_, HW2.out.below⟩
                  have e2 : (if mo = 2 then max ss S.length else ss) = (ss) := by rw [if_neg hm2]
                  have e3 : (⟨(((wd.data.toList ++ numsL N (nn)) ++ textsL S (ss)) ++ [10]).toArray⟩ : ByteArray) = res := by
                    rw [HRES.out, e2]
                    have h0 := HMO.out; have h1 := HMN.out; simp only [Bool.false_eq_true, if_false]; rw [if_pos h0, Nat.max_eq_left (by omega)]
                  rw [← e3, ← HF.out]
                  rfl
    · have m1 : ((mo : Int) == 1) = false := by rw [beq_eq_false_iff_ne]; omega
      have HMO := Lib.hid hmo
      go_wp2_with fail
      obtain ⟨wL, hwL, R, hR, rs, hrs, hWL⟩ : ∃ wL, w3.alloc (.cells #[.string wd, .int .i64 (nn : Int), .int .i64 (ss : Int), .int .i64 (mo : Int), .bool false] 104) = wL ∧ ∃ R, w3.heap.size = R ∧ ∃ rs, rs = #[.string wd, .int .i64 (nn : Int), .int .i64 (ss : Int), .int .i64 (mo : Int), .bool false] ∧ (wL.heap[R]? = some (.cells rs 104 (0, 0)) ∧ wL.heap[w.heap.size]? = some (.cells #[.int .i64 x, .slice AN N.length cN, .slice AS S.length cS, .int .i64 o0, .int .i64 o1, .int .i64 o2, .int .i64 o3, .int .i64 o4, .int .i64 o5] 52 (0, 0)) ∧ Below w.heap.size w wL) :=
        ⟨_, rfl, _, rfl, _, rfl, heap_alloc_new w3 _, (Below.heap_alloc _ _ _ hlt).trans HA3.out, HB3.out.alloc HB3.out.size _⟩
      rw [hwL, hR]
      have HWL := Lib.hid hWL
      clear hwL hR hWL d1 d2 d3 d4 d5 d6 d7 d8 hlt HA3 HB3
      have HW : Hid (LWorld w.heap.size R #[.int .i64 x, .slice AN N.length cN, .slice AS S.length cS, .int .i64 o0, .int .i64 o1, .int .i64 o2, .int .i64 o3, .int .i64 o4, .int .i64 o5] rs AN N w wL) := ⟨HWL.out.1, HWL.out.2.1, Kd.C_below HN.out HWL.out.2.2, HWL.out.2.2⟩
      have HRS := Lib.hid hrs
      clear hrs HWL
      go_loopg [4, 7] (nn) (fun gk v4 v7 wr => ∃ (k : Nat) (t : ByteArray), v7 = .int .i64 k ∧ v4 = .string t ∧ gk + k = nn ∧ t.size ≤ 100 + 21 * k ∧ Hid (t = ⟨(wd.data.toList ++ numsL N k).toArray⟩) ∧ Hid (LWorld w.heap.size R #[.int .i64 x, .slice AN N.length cN, .slice AS S.length cS, .int .i64 o0, .int .i64 o1, .int .i64 o2, .int .i64 o3, .int .i64 o4, .int .i64 o5] rs AN N w wr))
      case atStart => exact ⟨0, wd, rfl, rfl, by omega, by omega, by show _ = _; simp [numsL], HW⟩
      case round =>
        clear HW
        obtain ⟨k, t, rfl, rfl, hgk, ht, HT, HW⟩ := hrel
        by_cases hk : k < nn
        · obtain ⟨gk', rfl⟩ : ∃ m, gk = m + 1 := ⟨gk - 1, by omega⟩
          have hv := HNr.out k
          have HV := Lib.hid hv
          have hds := decB_size (N.getD k 0) hv.1 hv.2
          have HT3 : Hid (⟨(wd.data.toList ++ numsL N (k + 1)).toArray⟩ = (t ++ ⟨#[32]⟩) ++ decB (N.getD k 0)) := by
            show _ = _
            rw [HT.out, append_arr _ [32]]
            show _ = _ ++ (⟨(decL _).toArray⟩ : ByteArray)
            rw [append_arr]; simp [numsL]
          have hq1 : t.size + 1 ≤ 9223372036854775807 := by omega
          by_cases hkl : k < N.length
          · have hkl2 : (k : Int) < (N.length : Int) := by omega
            obtain ⟨ad, e, hel⟩ := Kd.at_int HW.out.nums (k : Int) (by omega) (by omega)
            subst e
            have hel2 : wr.cell? (ad.add k) = some (.int .i64 (N.getD k 0)) := by simpa [rd] using hel
            clear hel hv
            generalize N.getD k 0 = nv at *
            go_wp2_with fail
            refine (rdec_calls nv _ HV.out.1 HV.out.2).mono ?_
            rintro e w7 ⟨rfl, hd7⟩
            have hW7 := Lib.hid (HW.out.call hd7.below)
            clear hd7 hel2
            generalize decB nv = dv at *
            have hq2 : (t ++ ⟨#[32]⟩).size + dv.size ≤ 9223372036854775807 := by rw [ByteArray.size_append]; have : (⟨#[32]⟩ : ByteArray).size = 1 := rfl; omega
            have hq3 : t.size + 1 + dv.size ≤ 9223372036854775807 := by omega
            have HZ : Hid (((t ++ ⟨#[32]⟩) ++ dv).size ≤ 100 + 21 * (k + 1)) := by
              show _ ≤ _
              rw [ByteArray.size_append, ByteArray.size_append]; have : (⟨#[32]⟩ : ByteArray).size = 1 := rfl; omega
            go_wp2
            go_roundg gk'
            case rel => exact ⟨k + 1, (t ++ ⟨#[32]⟩) ++ dv, by go_num, rfl, by omega, HZ.out, Lib.hid HT3.out.symm, hW7⟩
            case measure => omega
          · have hkl2 : ¬ (k : Int) < (N.length : Int) := by omega
            have hz : N.getD k 0 = 0 := by rw [List.getD_eq_getElem?_getD, List.getElem?_eq_none (by omega)]; rfl
            rw [hz] at HT3 hds HV
            clear hz hv
            go_wp2_with fail
            refine (rdec_calls 0 _ (by omega) (by omega)).mono ?_
            rintro e w7 ⟨rfl, hd7⟩
            have hW7 := Lib.hid (HW.out.call hd7.below)
            clear hd7
            generalize decB 0 = dv at *
            have hq2 : (t ++ ⟨#[32]⟩).size + dv.size ≤ 9223372036854775807 := by rw [ByteArray.size_append]; have : (⟨#[32]⟩ : ByteArray).size = 1 := rfl; omega
            have hq3 : t.size + 1 + dv.size ≤ 9223372036854775807 := by omega
            have HZ : Hid (((t ++ ⟨#[32]⟩) ++ dv).size ≤ 100 + 21 * (k + 1)) := by
              show _ ≤ _
              rw [ByteArray.size_append, ByteArray.size_append]; have : (⟨#[32]⟩ : ByteArray).size = 1 := rfl; omega
            go_wp2
            go_roundg gk'
            case rel => exact ⟨k + 1, (t ++ ⟨#[32]⟩) ++ dv, by go_num, rfl, by omega, HZ.out, Lib.hid HT3.out.symm, hW7⟩
            case measure => omega
        · obtain rfl : nn = k := by omega
          have e2 : wr.cell? ⟨w.heap.size, 2, none⟩ = some (.slice AS S.length cS) := cell_of_row wr _ 2 _ _ _ HW.out.step
          have r2 : wr.cell? ⟨R, 2, none⟩ = some (.int .i64 (ss : Int)) := cell_of_row wr _ 2 _ _ _ (by have := HW.out.row; rw [HRS.out] at this; exact this)
          have r3 : wr.cell? ⟨R, 3, none⟩ = some (.int .i64 (mo : Int)) := cell_of_row wr _ 3 _ _ _ (by have := HW.out.row; rw [HRS.out] at this; exact this)
          have ht9 : t.size ≤ 100000000000 := by omega
          clear ht
          by_cases hm2 : mo = 2
          · have q1 : ((mo : Int) == 2) = true := by rw [hm2]; rfl
            by_cases hm3 : ss < S.length
            · have q2 : decide ((S.length : Int) > (ss : Int)) = true := decide_eq_true (by omega)
              have HM := Lib.hid hm2
              clear hm2
              go_wp2_with fail
              have hu0 := decL_len
              clear hu0
              go_loopg [4, 10] (S.length) (fun gk v4 v10 wr => ∃ (k : Nat) (t : ByteArray), v10 = .int .i64 k ∧ v4 = .string t ∧ gk + k = S.length ∧ t.size ≤ 200000000000000 ∧ Hid (t = ⟨((wd.data.toList ++ numsL N (nn)) ++ textsL S k).toArray⟩) ∧ Hid (LWorld w.heap.size R #[.int .i64 x, .slice AN N.length cN, .slice AS S.length cS, .int .i64 o0, .int .i64 o1, .int .i64 o2, .int .i64 o3, .int .i64 o4, .int .i64 o5] rs AN N w wr))
              case atStart => exact ⟨0, t, rfl, rfl, by omega, by omega, by show _ = _; rw [HT.out]; simp [textsL], HW⟩
              case round =>
                obtain ⟨k2, t2, rfl, rfl, hgk2, ht2, HT2, HW2⟩ := hrel
                by_cases hk2 : k2 < S.length
                · obtain ⟨gk2, rfl⟩ : ∃ m, gk = m + 1 := ⟨gk - 1, by omega⟩
                  have hlt2 : (k2 : Int) < (S.length : Int) := by omega
                  have e0 : wr.cell? ⟨w.heap.size, 0, none⟩ = some (.int .i64 x) := cell_of_row wr _ 0 _ _ _ HW2.out.step
                  have e1 : wr.cell? ⟨w.heap.size, 1, none⟩ = some (.slice AN N.length cN) := cell_of_row wr _ 1 _ _ _ HW2.out.step
                  have e2 : wr.cell? ⟨w.heap.size, 2, none⟩ = some (.slice AS S.length cS) := cell_of_row wr _ 2 _ _ _ HW2.out.step
                  have e3 : wr.cell? ⟨w.heap.size, 3, none⟩ = some (.int .i64 o0) := cell_of_row wr _ 3 _ _ _ HW2.out.step
                  have e4 : wr.cell? ⟨w.heap.size, 4, none⟩ = some (.int .i64 o1) := cell_of_row wr _ 4 _ _ _ HW2.out.step
                  have e5 : wr.cell? ⟨w.heap.size, 5, none⟩ = some (.int .i64 o2) := cell_of_row wr _ 5 _ _ _ HW2.out.step
                  have e6 : wr.cell? ⟨w.heap.size, 6, none⟩ = some (.int .i64 o3) := cell_of_row wr _ 6 _ _ _ HW2.out.step
                  have e7 : wr.cell? ⟨w.heap.size, 7, none⟩ = some (.int .i64 o4) := cell_of_row wr _ 7 _ _ _ HW2.out.step
                  have e8 : wr.cell? ⟨w.heap.size, 8, none⟩ = some (.int .i64 o5) := cell_of_row wr _ 8 _ _ _ HW2.out.step
                  have hq1 : t2.size + 1 ≤ 9223372036854775807 := by omega
                  have hsv := HSr.out k2
                  have hle := HLEN.out (k2 + 1) (by have := HM.out; rw [if_pos this]; omega)
                  have hnl := numsL_len N HNr.out (nn)
                  have hT3 : ⟨((wd.data.toList ++ numsL N (nn)) ++ textsL S (k2 + 1)).toArray⟩ = (t2 ++ ⟨#[32]⟩) ++ escB (S.getD k2 ByteArray.empty) := by
                    rw [HT2.out, append_arr _ [32]]
                    show _ = _ ++ (⟨(escL _).toArray⟩ : ByteArray)
                    rw [append_arr]; simp [textsL]
                  have HT3 := Lib.hid hT3
                  have hsz3 : ((t2 ++ ⟨#[32]⟩) ++ escB (S.getD k2 ByteArray.empty)).size ≤ 200000000000000 := by
                    rw [← hT3, size_arr, List.length_append, List.length_append, dsize]; omega
                  have hwf : annalsref30_Word.f x N S o0 o1 o2 o3 o4 o5 (k2 : Int) = some (S.getD k2 ByteArray.empty) := by
                    have := word_f S k2
                    unfold play_word.f at this
                    unfold annalsref30_Word.f
                    exact this
                  have HWF := Lib.hid hwf
                  have hz3 : t2.size + 1 + (escB (S.getD k2 ByteArray.empty)).size ≤ 9223372036854775807 := by
                    rw [ByteArray.size_append, ByteArray.size_append] at hsz3
                    have : (⟨#[32]⟩ : ByteArray).size = 1 := rfl
                    omega
                  have HZ3 := Lib.hid hsz3
                  clear hT3 hwf hsz3 hnl hle
                  generalize S.getD k2 ByteArray.empty = sv at *
                  go_wp2_with fail
                  refine (annalsref30_Word.calls x AN cN N AS cS S o0 o1 o2 o3 o4 o5 (k2 : Int) sv _ (Kd.C_below HN.out HW2.out.below) hcN (Kd.C_below HS.out HW2.out.below) hcS HWF.out).mono ?_
                  rintro e w8 ⟨rfl, hb8⟩
                  have hW8 := Lib.hid (HW2.out.call hb8)
                  clear hb8 e0 e1 e2 e3 e4 e5 e6 e7 e8
                  go_wp2_with fail
                  refine (resc_calls sv _ hsv).mono ?_
                  rintro e w9 ⟨rfl, hd9⟩
                  have hW9 := Lib.hid (hW8.out.call (Drawn0.below ⟨hd9⟩))
                  clear hd9 hsv
                  generalize escB sv = ev at *
                  have hq2 : (t2 ++ ⟨#[32]⟩).size + ev.size ≤ 9223372036854775807 := by rw [ByteArray.size_append]; exact hz3
                  go_wp2
                  go_roundg gk2
                  case rel => exact ⟨k2 + 1, (t2 ++ ⟨#[32]⟩) ++ ev, by go_num, rfl, by omega, HZ3.out, Lib.hid HT3.out.symm, hW9⟩
                  case measure => omega
                · obtain rfl : S.length = k2 := by omega
                  have hq1 : t2.size + 1 ≤ 9223372036854775807 := by omega
                  have HF : Hid (t2 ++ ⟨#[10]⟩ = ⟨(((wd.data.toList ++ numsL N (nn)) ++ textsL S (S.length)) ++ [10]).toArray⟩) := by
                    show _ = _
                    rw [HT2.out]; exact append_arr _ [10]
                  go_wp2
                  go_ret
                  refine ⟨?_, HW2.out.below⟩
                  have e2 : (if mo = 2 then max ss S.length else ss) = (S.length) := by have := HM.out; rw [if_pos this]; omega
                  have e3 : (⟨(((wd.data.toList ++ numsL N (nn)) ++ textsL S (S.length)) ++ [10]).toArray⟩ : ByteArray) = res := by
                    rw [HRES.out, e2]
                    have h0 := HMO.out; simp only [Bool.false_eq_true, if_false]; rw [if_neg h0]
                  rw [← e3, ← HF.out]
                  rfl
            · have q2 : decide ((S.length : Int) > (ss : Int)) = false := decide_eq_false (by omega)
              have HM := Lib.hid hm2
              clear hm2
              go_wp2_with fail
              have hu0 := decL_len
              clear hu0
              go_loopg [4, 10] (ss) (fun gk v4 v10 wr => ∃ (k : Nat) (t : ByteArray), v10 = .int .i64 k ∧ v4 = .string t ∧ gk + k = ss ∧ t.size ≤ 200000000000000 ∧ Hid (t = ⟨((wd.data.toList ++ numsL N (nn)) ++ textsL S k).toArray⟩) ∧ Hid (LWorld w.heap.size R #[.int .i64 x, .slice AN N.length cN, .slice AS S.length cS, .int .i64 o0, .int .i64 o1, .int .i64 o2, .int .i64 o3, .int .i64 o4, .int .i64 o5] rs AN N w wr))
              case atStart => exact ⟨0, t, rfl, rfl, by omega, by omega, by show _ = _; rw [HT.out]; simp [textsL], HW⟩
              case round =>
                obtain ⟨k2, t2, rfl, rfl, hgk2, ht2, HT2, HW2⟩ := hrel
                by_cases hk2 : k2 < ss
                · obtain ⟨gk2, rfl⟩ : ∃ m, gk = m + 1 := ⟨gk - 1, by omega⟩
                  have hlt2 : (k2 : Int) < (ss : Int) := by omega
                  have e0 : wr.cell? ⟨w.heap.size, 0, none⟩ = some (.int .i64 x) := cell_of_row wr _ 0 _ _ _ HW2.out.step
                  have e1 : wr.cell? ⟨w.heap.size, 1, none⟩ = some (.slice AN N.length cN) := cell_of_row wr _ 1 _ _ _ HW2.out.step
                  have e2 : wr.cell? ⟨w.heap.size, 2, none⟩ = some (.slice AS S.length cS) := cell_of_row wr _ 2 _ _ _ HW2.out.step
                  have e3 : wr.cell? ⟨w.heap.size, 3, none⟩ = some (.int .i64 o0) := cell_of_row wr _ 3 _ _ _ HW2.out.step
                  have e4 : wr.cell? ⟨w.heap.size, 4, none⟩ = some (.int .i64 o1) := cell_of_row wr _ 4 _ _ _ HW2.out.step
                  have e5 : wr.cell? ⟨w.heap.size, 5, none⟩ = some (.int .i64 o2) := cell_of_row wr _ 5 _ _ _ HW2.out.step
                  have e6 : wr.cell? ⟨w.heap.size, 6, none⟩ = some (.int .i64 o3) := cell_of_row wr _ 6 _ _ _ HW2.out.step
                  have e7 : wr.cell? ⟨w.heap.size, 7, none⟩ = some (.int .i64 o4) := cell_of_row wr _ 7 _ _ _ HW2.out.step
                  have e8 : wr.cell? ⟨w.heap.size, 8, none⟩ = some (.int .i64 o5) := cell_of_row wr _ 8 _ _ _ HW2.out.step
                  have hq1 : t2.size + 1 ≤ 9223372036854775807 := by omega
                  have hsv := HSr.out k2
                  have hle := HLEN.out (k2 + 1) (by have := HM.out; rw [if_pos this]; omega)
                  have hnl := numsL_len N HNr.out (nn)
                  have hT3 : ⟨((wd.data.toList ++ numsL N (nn)) ++ textsL S (k2 + 1)).toArray⟩ = (t2 ++ ⟨#[32]⟩) ++ escB (S.getD k2 ByteArray.empty) := by
                    rw [HT2.out, append_arr _ [32]]
                    show _ = _ ++ (⟨(escL _).toArray⟩ : ByteArray)
                    rw [append_arr]; simp [textsL]
                  have HT3 := Lib.hid hT3
                  have hsz3 : ((t2 ++ ⟨#[32]⟩) ++ escB (S.getD k2 ByteArray.empty)).size ≤ 200000000000000 := by
                    rw [← hT3, size_arr, List.length_append, List.length_append, dsize]; omega
                  have hwf : annalsref30_Word.f x N S o0 o1 o2 o3 o4 o5 (k2 : Int) = some (S.getD k2 ByteArray.empty) := by
                    have := word_f S k2
                    unfold play_word.f at this
                    unfold annalsref30_Word.f
                    exact this
                  have HWF := Lib.hid hwf
                  have hz3 : t2.size + 1 + (escB (S.getD k2 ByteArray.empty)).size ≤ 9223372036854775807 := by
                    rw [ByteArray.size_append, ByteArray.size_append] at hsz3
                    have : (⟨#[32]⟩ : ByteArray).size = 1 := rfl
                    omega
                  have HZ3 := Lib.hid hsz3
                  clear hT3 hwf hsz3 hnl hle
                  generalize S.getD k2 ByteArray.empty = sv at *
                  go_wp2_with fail
                  refine (annalsref30_Word.calls x AN cN N AS cS S o0 o1 o2 o3 o4 o5 (k2 : Int) sv _ (Kd.C_below HN.out HW2.out.below) hcN (Kd.C_below HS.out HW2.out.below) hcS HWF.out).mono ?_
                  rintro e w8 ⟨rfl, hb8⟩
                  have hW8 := Lib.hid (HW2.out.call hb8)
                  clear hb8 e0 e1 e2 e3 e4 e5 e6 e7 e8
                  go_wp2_with fail
                  refine (resc_calls sv _ hsv).mono ?_
                  rintro e w9 ⟨rfl, hd9⟩
                  have hW9 := Lib.hid (hW8.out.call (Drawn0.below ⟨hd9⟩))
                  clear hd9 hsv
                  generalize escB sv = ev at *
                  have hq2 : (t2 ++ ⟨#[32]⟩).size + ev.size ≤ 9223372036854775807 := by rw [ByteArray.size_append]; exact hz3
                  go_wp2
                  go_roundg gk2
                  case rel => exact ⟨k2 + 1, (t2 ++ ⟨#[32]⟩) ++ ev, by go_num, rfl, by omega, HZ3.out, Lib.hid HT3.out.symm, hW9⟩
                  case measure => omega
                · obtain rfl : ss = k2 := by omega
                  have hq1 : t2.size + 1 ≤ 9223372036854775807 := by omega
                  have HF : Hid (t2 ++ ⟨#[10]⟩ = ⟨(((wd.data.toList ++ numsL N (nn)) ++ textsL S (ss)) ++ [10]).toArray⟩) := by
                    show _ = _
                    rw [HT2.out]; exact append_arr _ [10]
                  go_wp2
                  go_ret
                  refine ⟨?_, HW2.out.below⟩
                  have e2 : (if mo = 2 then max ss S.length else ss) = (ss) := by have := HM.out; rw [if_pos this]; omega
                  have e3 : (⟨(((wd.data.toList ++ numsL N (nn)) ++ textsL S (ss)) ++ [10]).toArray⟩ : ByteArray) = res := by
                    rw [HRES.out, e2]
                    have h0 := HMO.out; simp only [Bool.false_eq_true, if_false]; rw [if_neg h0]
                  rw [← e3, ← HF.out]
                  rfl
          · have q1 : ((mo : Int) == 2) = false := by rw [beq_eq_false_iff_ne]; omega
            go_wp2_with fail
            have hu0 := decL_len
            clear hu0
            go_loopg [4, 10] (ss) (fun gk v4 v10 wr => ∃ (k : Nat) (t : ByteArray), v10 = .int .i64 k ∧ v4 = .string t ∧ gk + k = ss ∧ t.size ≤ 200000000000000 ∧ Hid (t = ⟨((wd.data.toList ++ numsL N (nn)) ++ textsL S k).toArray⟩) ∧ Hid (LWorld w.heap.size R #[.int .i64 x, .slice AN N.length cN, .slice AS S.length cS, .int .i64 o0, .int .i64 o1, .int .i64 o2, .int .i64 o3, .int .i64 o4, .int .i64 o5] rs AN N w wr))
            case atStart => exact ⟨0, t, rfl, rfl, by omega, by omega, by show _ = _; rw [HT.out]; simp [textsL], HW⟩
            case round =>
              obtain ⟨k2, t2, rfl, rfl, hgk2, ht2, HT2, HW2⟩ := hrel
              by_cases hk2 : k2 < ss
              · obtain ⟨gk2, rfl⟩ : ∃ m, gk = m + 1 := ⟨gk - 1, by omega⟩
                have hlt2 : (k2 : Int) < (ss : Int) := by omega
                have e0 : wr.cell? ⟨w.heap.size, 0, none⟩ = some (.int .i64 x) := cell_of_row wr _ 0 _ _ _ HW2.out.step
                have e1 : wr.cell? ⟨w.heap.size, 1, none⟩ = some (.slice AN N.length cN) := cell_of_row wr _ 1 _ _ _ HW2.out.step
                have e2 : wr.cell? ⟨w.heap.size, 2, none⟩ = some (.slice AS S.length cS) := cell_of_row wr _ 2 _ _ _ HW2.out.step
                have e3 : wr.cell? ⟨w.heap.size, 3, none⟩ = some (.int .i64 o0) := cell_of_row wr _ 3 _ _ _ HW2.out.step
                have e4 : wr.cell? ⟨w.heap.size, 4, none⟩ = some (.int .i64 o1) := cell_of_row wr _ 4 _ _ _ HW2.out.step
                have e5 : wr.cell? ⟨w.heap.size, 5, none⟩ = some (.int .i64 o2) := cell_of_row wr _ 5 _ _ _ HW2.out.step
                have e6 : wr.cell? ⟨w.heap.size, 6, none⟩ = some (.int .i64 o3) := cell_of_row wr _ 6 _ _ _ HW2.out.step
                have e7 : wr.cell? ⟨w.heap.size, 7, none⟩ = some (.int .i64 o4) := cell_of_row wr _ 7 _ _ _ HW2.out.step
                have e8 : wr.cell? ⟨w.heap.size, 8, none⟩ = some (.int .i64 o5) := cell_of_row wr _ 8 _ _ _ HW2.out.step
                have hq1 : t2.size + 1 ≤ 9223372036854775807 := by omega
                have hsv := HSr.out k2
                have hle := HLEN.out (k2 + 1) (by rw [if_neg hm2]; omega)
                have hnl := numsL_len N HNr.out (nn)
                have hT3 : ⟨((wd.data.toList ++ numsL N (nn)) ++ textsL S (k2 + 1)).toArray⟩ = (t2 ++ ⟨#[32]⟩) ++ escB (S.getD k2 ByteArray.empty) := by
                  rw [HT2.out, append_arr _ [32]]
                  show _ = _ ++ (⟨(escL _).toArray⟩ : ByteArray)
                  rw [append_arr]; simp [textsL]
                have HT3 := Lib.hid hT3
                have hsz3 : ((t2 ++ ⟨#[32]⟩) ++ escB (S.getD k2 ByteArray.empty)).size ≤ 200000000000000 := by
                  rw [← hT3, size_arr, List.length_append, List.length_append, dsize]; omega
                have hwf : annalsref30_Word.f x N S o0 o1 o2 o3 o4 o5 (k2 : Int) = some (S.getD k2 ByteArray.empty) := by
                  have := word_f S k2
                  unfold play_word.f at this
                  unfold annalsref30_Word.f
                  exact this
                have HWF := Lib.hid hwf
                have hz3 : t2.size + 1 + (escB (S.getD k2 ByteArray.empty)).size ≤ 9223372036854775807 := by
                  rw [ByteArray.size_append, ByteArray.size_append] at hsz3
                  have : (⟨#[32]⟩ : ByteArray).size = 1 := rfl
                  omega
                have HZ3 := Lib.hid hsz3
                clear hT3 hwf hsz3 hnl hle
                generalize S.getD k2 ByteArray.empty = sv at *
                go_wp2_with fail
                refine (annalsref30_Word.calls x AN cN N AS cS S o0 o1 o2 o3 o4 o5 (k2 : Int) sv _ (Kd.C_below HN.out HW2.out.below) hcN (Kd.C_below HS.out HW2.out.below) hcS HWF.out).mono ?_
                rintro e w8 ⟨rfl, hb8⟩
                have hW8 := Lib.hid (HW2.out.call hb8)
                clear hb8 e0 e1 e2 e3 e4 e5 e6 e7 e8
                go_wp2_with fail
                refine (resc_calls sv _ hsv).mono ?_
                rintro e w9 ⟨rfl, hd9⟩
                have hW9 := Lib.hid (hW8.out.call (Drawn0.below ⟨hd9⟩))
                clear hd9 hsv
                generalize escB sv = ev at *
                have hq2 : (t2 ++ ⟨#[32]⟩).size + ev.size ≤ 9223372036854775807 := by rw [ByteArray.size_append]; exact hz3
                go_wp2
                go_roundg gk2
                case rel => exact ⟨k2 + 1, (t2 ++ ⟨#[32]⟩) ++ ev, by go_num, rfl, by omega, HZ3.out, Lib.hid HT3.out.symm, hW9⟩
                case measure => omega
              · obtain rfl : ss = k2 := by omega
                have hq1 : t2.size + 1 ≤ 9223372036854775807 := by omega
                have HF : Hid (t2 ++ ⟨#[10]⟩ = ⟨(((wd.data.toList ++ numsL N (nn)) ++ textsL S (ss)) ++ [10]).toArray⟩) := by
                  show _ = _
                  rw [HT2.out]; exact append_arr _ [10]
                go_wp2
                go_ret
                refine ⟨?_, HW2.out.below⟩
                have e2 : (if mo = 2 then max ss S.length else ss) = (ss) := by rw [if_neg hm2]
                have e3 : (⟨(((wd.data.toList ++ numsL N (nn)) ++ textsL S (ss)) ++ [10]).toArray⟩ : ByteArray) = res := by
                  rw [HRES.out, e2]
                  have h0 := HMO.out; simp only [Bool.false_eq_true, if_false]; rw [if_neg h0]
                rw [← e3, ← HF.out]
                rfl

end Go.Proofs.Ytnpmkaklkonofaa.Txt
