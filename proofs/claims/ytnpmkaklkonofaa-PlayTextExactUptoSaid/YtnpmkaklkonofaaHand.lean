/- The contracts of the functions that are proved by hand, in the form in which the other functions' texts ask for them. -/
import Derived.Test.YtnpmkaklkonofaaUnesc
import Derived.Test.YtnpmkaklkonofaaCut
import Derived.Test.YtnpmkaklkonofaaBuild
import Derived.Test.YtnpmkaklkonofaaREsc
namespace Go.Proofs.Ytnpmkaklkonofaa.Hand
open Go.RowKit Go.Proofs.YtnpmkaklkonofaaW.PrintWords Go.Proofs.YtnpmkaklkonofaaW.PrintLast Go.Proofs.Ytnpmkaklkonofaa.Txt

def text_Dec.f (a0 : Int) : Option ByteArray := if -9223372036854775808 ≤ a0 then (if a0 ≤ 9223372036854775807 then some (decB a0) else none) else none
theorem text_Dec.calls (a0 : Int) (r : ByteArray) (w : World) (h : text_Dec.f a0 = some r) :
    Calls Try.prog 33 #[.int .i64 a0] w fun e w' => e = .returned (.string r) ∧ Below w.heap.size w w' := by
  unfold text_Dec.f at h
  split at h
  · split at h
    · obtain rfl := Option.some.inj h
      exact dec_calls a0 w ‹_› ‹_›
    · cases h
  · cases h

def text_Escape.f (a0 : ByteArray) : Option ByteArray := if a0.size ≤ 35184372088832 then some (escB a0) else none
theorem text_Escape.calls (a0 : ByteArray) (r : ByteArray) (w : World) (h : text_Escape.f a0 = some r) :
    Calls Try.prog 55 #[.string a0] w fun e w' => e = .returned (.string r) ∧ Below w.heap.size w w' := by
  unfold text_Escape.f at h
  split at h
  · obtain rfl := Option.some.inj h
    exact esc_calls a0 w ‹_›
  · cases h

def text_UnDec.f (a0 : ByteArray) : Option (Int × Int) := if a0.size ≤ 140737488351232 then some (unDec a0) else none
theorem text_UnDec.calls (a0 : ByteArray) (r1 r2 : Int) (w : World) (h : text_UnDec.f a0 = some (r1, r2)) :
    Calls Try.prog 65 #[.string a0] w fun e w' => e = .returned (.tuple #[.int .i64 r1, .int .i64 r2]) ∧ Below w.heap.size w w' := by
  unfold text_UnDec.f at h
  split at h
  · have h := Option.some.inj h
    have h1 : (unDec a0).1 = r1 := by rw [h]
    have h2 : (unDec a0).2 = r2 := by rw [h]
    subst h1 h2
    exact undec_calls a0 w ‹_›
  · cases h

def text_Unescape.f (a0 : ByteArray) : Option (ByteArray × Int) := if a0.size ≤ 35184372088832 then some (unesc a0) else none
theorem text_Unescape.calls (a0 : ByteArray) (r1 : ByteArray) (r2 : Int) (w : World) (h : text_Unescape.f a0 = some (r1, r2)) :
    Calls Try.prog 64 #[.string a0] w fun e w' => e = .returned (.tuple #[.string r1, .int .i64 r2]) ∧ Below w.heap.size w w' := by
  unfold text_Unescape.f at h
  split at h
  · have h := Option.some.inj h
    have h1 : (unesc a0).1 = r1 := by rw [h]
    have h2 : (unesc a0).2 = r2 := by rw [h]
    subst h1 h2
    exact unesc_calls a0 w ‹_›
  · cases h

def strings_Cut.f (a0 a1 : ByteArray) : Option (ByteArray × ByteArray × Bool) := if a0.size ≤ 140737488351232 then (match a1.data.toList with | [c] => some (cutB a0 c) | _ => none) else none
theorem strings_Cut.calls (a0 a1 : ByteArray) (r1 r2 : ByteArray) (r3 : Bool) (w : World) (h : strings_Cut.f a0 a1 = some (r1, r2, r3)) :
    Calls Try.prog 44 #[.string a0, .string a1] w fun e w' => e = .returned (.tuple #[.string r1, .string r2, .bool r3]) ∧ Drawn0 w w' := by
  unfold strings_Cut.f at h
  split at h
  · split at h
    · rename_i c hc
      have h := Option.some.inj h
      have h1 : (cutB a0 c).1 = r1 := by rw [h]
      have h2 : (cutB a0 c).2.1 = r2 := by rw [h]
      have h3 : (cutB a0 c).2.2 = r3 := by rw [h]
      subst h1 h2 h3
      obtain rfl : a1 = ⟨#[c]⟩ := ByteArray.ext (Array.toList_inj.1 hc)
      refine (cut_calls a0 c w ‹_›).mono ?_
      rintro e w' ⟨rfl, hn⟩
      exact ⟨rfl, ⟨hn⟩⟩
    · cases h
  · cases h

def joinL (l : List ByteArray) (sep : ByteArray) : List UInt8 := Lib.join (l.map (·.data.toList)) sep.data.toList
def strings_Join.f (l0 : List ByteArray) (a1 : ByteArray) : Option ByteArray := if (joinL l0 a1).length ≤ 140737488355328 then (if l0.length ≤ 140737488355328 then some ⟨(joinL l0 a1).toArray⟩ else none) else none
theorem strings_Join.calls (A0 : Option Addr) (c0 : Nat) (l0 : List ByteArray) (a1 : ByteArray) (r : ByteArray) (w : World) (hr0 : Kd.C Kd.string w A0 l0.length l0) (hc0 : l0.length ≤ c0) (h : strings_Join.f l0 a1 = some r) :
    Calls Try.prog 28 #[.slice A0 l0.length c0, .string a1] w fun e w' => e = .returned (.string r) ∧ Below w.heap.size w w' := by
  unfold strings_Join.f at h
  split at h
  · split at h
    · obtain rfl := Option.some.inj h
      rcases Nat.eq_zero_or_pos l0.length with hz | hz
      · obtain rfl : l0 = [] := List.eq_nil_of_length_eq_zero hz
        refine (Try.strings_Join_none A0 c0 a1 w).mono ?_
        rintro e w' ⟨rfl, rfl⟩
        exact ⟨rfl, Below.refl _ _⟩
      · obtain ⟨ad, rfl, h0⟩ := Kd.at_string hr0 0 (by omega) (by omega)
        have hsp : ad.spot = none := by
          have h0' : w.cell? ad = some (.string (rdOf ByteArray.empty l0 0)) := h0
          unfold World.cell? at h0'
          split at h0'
          · split at h0'
            · cases h0'
            · rename_i hs; simpa using hs
          · cases h0'
        obtain ⟨bk, o, sp⟩ := ad
        obtain rfl : sp = none := hsp
        refine Try.strings_Join bk o c0 l0 a1 w (fun j x hx => ?_) (World.block_lt_of_cell? w _ h0) ‹_› hc0 ‹_›
        have hj : j < l0.length := (List.getElem?_eq_some_iff.1 hx).1
        obtain ⟨ad, e, hc⟩ := Kd.at_string hr0 (j : Int) (by omega) (by omega)
        cases e
        have hadd : (⟨bk, o, none⟩ : Addr).add (j : Int).toNat = ⟨bk, o + j, none⟩ := by unfold Addr.add; split <;> simp_all
        rw [hadd] at hc
        rw [hc]
        simp only [rdOf, Int.toNat_natCast, List.getD_eq_getElem?_getD, hx, Option.getD_some]
    · cases h
  · cases h

def annalsref4_Escape.f (a0 : ByteArray) : Option ByteArray := if a0.size ≤ 35184372088832 then some (escB a0) else none
theorem annalsref4_Escape.calls (a0 : ByteArray) (r : ByteArray) (w : World) (h : annalsref4_Escape.f a0 = some r) :
    Calls Try.prog 60 #[.string a0] w fun e w' => e = .returned (.string r) ∧ Drawn0 w w' := by
  unfold annalsref4_Escape.f at h
  split at h
  · obtain rfl := Option.some.inj h
    refine (resc_calls a0 w ‹_›).mono ?_
    rintro e w' ⟨rfl, hn⟩
    exact ⟨rfl, ⟨hn⟩⟩
  · cases h

end Go.Proofs.Ytnpmkaklkonofaa.Hand
