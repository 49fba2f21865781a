/- text.Escape writes any bytes as one word. -/
import Derived.Test.YtnpmkaklkonofaaEscL
import Derived.Test.YtnpmkaklkonofaaEach
import Derived.Test.YtnpmkaklkonofaaProg
import Derived.Test.YtnpmkaklkonofaaRows
import Derived.WalkKit
import Derived.WalkSpells
import Derived.WalkLawsBesides
import Derived.Laws.IdiomStrings
import Derived.Lib.Hide
import Derived.Test.YtnpmkaklkonofaaWWords
import Derived.Test.YtnpmkaklkonofaaWLast
namespace Go.Proofs.Ytnpmkaklkonofaa.Txt
open Go.RowKit Go.Proofs.YtnpmkaklkonofaaW.PrintWords Go.Proofs.YtnpmkaklkonofaaW.PrintLast

theorem info5 : (Try.prog.info? 5).map (fun i => (i.zero, i.size, i.bytes)) = some (some (.int .u8 0), 1, 1) := by kernel_rfl

/-- Block a holds a slice of the call's own (blocks from a + 1 on), of these bytes. -/
structure Holds (a : Nat) (xs : List Int) (v : Value) (W : World) : Prop where
  cell : W.heap[a]? = some (.cells #[v] 56 (0, 0))
  own : W.ownsRow (a + 1) 5 1 v xs.length (nums .u8 xs)

def bytesI (l : List UInt8) : List Int := l.map fun c => (c.toNat : Int)
theorem bytesI_length (l : List UInt8) : (bytesI l).length = l.length := by simp [bytesI]
theorem bytesI_append (l m : List UInt8) : bytesI (l ++ m) = bytesI l ++ bytesI m := by simp [bytesI]

theorem Holds.stored {a : Nat} {xs ys : List Int} {v v1 : Value} {W w1 : World} (h : Holds a xs v W) (ho : w1.ownsRow (a + 1) 5 1 v1 ys.length (nums .u8 ys)) (hg : W.grownBy w1 v.ownBlock) :
    w1.cell? ⟨a, 0, none⟩ = some v ∧ w1.frozen? ⟨a, 0, none⟩ = false ∧ Holds a ys v1 (w1.setCell ⟨a, 0, none⟩ v1) ∧ Below a W (w1.setCell ⟨a, 0, none⟩ v1) := by
  have ha : a < W.heap.size := lt_of_block h.cell
  have hne : some a ≠ v.ownBlock := fun e => by have := own_base h.own a e.symm; omega
  have hc : w1.heap[a]? = some (.cells #[v] 56 (0, 0)) := (hg.block a ha hne).trans h.cell
  refine ⟨cell_of_one hc, free_of_one hc, ⟨one_setCell hc, ownsRow_setCell_other ho (fun e => ?_) _⟩, ?_⟩
  · have := own_base ho a e; omega
  · exact ((Below.refl a W).grown hg (by omega) (fun k hk => by have := own_base h.own k hk; omega)).setCell (Nat.le_refl _) _

/-- append(v, x, y, ..) as one step of a region that draws its order: the new cells are block g's. -/
theorem step_append_news {P : Program} {ops : Array Oper} {o : Oper} {a : Act} {Q : Exit → Act → World → Prop} {K : Act → World → Prop} (W : World) (base : Nat) (hw : Region.wanted o (yielded ops a.tmps) = true) (s x : Operand) (t e : TypeId) (k : IntKind) (bytes : Nat)
    (ho : o.op = .call { callee := .builtin .append, args := #[s, x], argTypes := #[t, t] })
    (ht : P.underlying t = some (.slice e)) (hinfo : (P.info? e).map (fun i => (i.zero, i.size, i.bytes)) = some (some (.int k 0), 1, bytes)) (hb0 : 0 < bytes)
    (v : Value) (xs ys : List Int) (g : Nat) (c : Nat) (fr : Nat × Nat) (hs : a.eval s = v) (hx : a.eval x = .slice (some ⟨g, 0, none⟩) ys.length c)
    (hg : W.heap[g]? = some (.cells (nums k ys).toArray e fr))
    (HO : W.ownsRow base e 1 v xs.length (nums k xs)) (hbase : base ≤ W.heap.size) (hl : (xs.length + ys.length) * bytes ≤ 140737488355328)
    (h : ∀ v1 w1, w1.ownsRow base e 1 v1 (xs ++ ys).length (nums k (xs ++ ys)) → W.grownBy w1 v.ownBlock → K (a.put o.dst v1) w1) :
    if Region.wanted o (yielded ops a.tmps) = true then Oper.wp P o a W K Q else K (a.put o.dst undef) W := by
  obtain ⟨i0, hi, hzz⟩ := Option.map_eq_some_iff.1 hinfo
  simp only [Prod.mk.injEq] at hzz
  obtain ⟨hz0, hz1, hz2⟩ := hzz
  have hlen : xs.length + ys.length ≤ 140737488355328 := Nat.le_trans (Nat.le_mul_of_pos_right _ hb0) hl
  rw [if_pos hw]
  obtain ⟨v1, w1, hr, hown, hg, _, hat⟩ := run_append_own_at (P := P) W base t o.type e i0 (.int k 0) 1 bytes ht hi hz0 hz1 hz2 rfl (by omega) v xs.length (nums k xs) HO ⟨g, 0, none⟩ ys.length c (nums k ys) (by rw [nums_length]; simp)
    (by simpa using World.news_of_block (cs := (nums k ys).toArray) (t := e) (fr := fr) hg) (fun u hu => by simp only [nums, List.mem_map] at hu; obtain ⟨_, _, rfl⟩ := hu; rfl) (by simp only [maxLen]; omega) hl hbase
  unfold Oper.wp execOp
  simp only [ho, resolve, invoke, builtin, Sem.run_bind, Sem.run_pure, Result.andThen_ok, List.map_toArray, List.map_cons, List.map_nil, hs, hx, hr]
  exact h v1 w1 (by rw [List.length_append, nums_append]; exact hown) hg

set_option maxRecDepth 100000 in
theorem hex_at (x : Int) (n : Nat) (e : x = n) (h : n < 16) : ∀ hh : x.toNat < (⟨#[48, 49, 50, 51, 52, 53, 54, 55, 56, 57, 65, 66, 67, 68, 69, 70]⟩ : ByteArray).size, ((⟨#[48, 49, 50, 51, 52, 53, 54, 55, 56, 57, 65, 66, 67, 68, 69, 70]⟩ : ByteArray)[x.toNat]'hh).toNat = (hexU n).toNat := by
  have key : ∀ m : Fin 16, ∀ hh : m.val < (⟨#[48, 49, 50, 51, 52, 53, 54, 55, 56, 57, 65, 66, 67, 68, 69, 70]⟩ : ByteArray).size, (⟨#[48, 49, 50, 51, 52, 53, 54, 55, 56, 57, 65, 66, 67, 68, 69, 70]⟩ : ByteArray)[m.val]'hh = hexU m.val := by decide
  intro hh
  subst e
  have := key ⟨n, h⟩ hh
  simpa using congrArg UInt8.toNat this

set_option maxHeartbeats 400000 in
set_option maxRecDepth 100000 in
theorem esc1_calls (c : UInt8) (a : Nat) (l : List UInt8) (v : Value) (W : World) (h : Holds a (bytesI l) v W) (hl : l.length ≤ 105553116266496) :
    Calls Try.prog 78 #[.int .u8 (c.toNat : Int), .pointer (some ⟨a, 0, none⟩)] W fun e W' => e = .returned (.bool true) ∧ ∃ v', Holds a (bytesI (l ++ escC c)) v' W' ∧ Below a W W' := by
  have hc : c.toNat < 256 := c.toNat_lt
  have ha : a < W.heap.size := lt_of_block h.cell
  have hv : W.cell? ⟨a, 0, none⟩ = some v := cell_of_one h.cell
  have hf : W.frozen? ⟨a, 0, none⟩ = false := free_of_one h.cell
  have HH := Lib.hid h
  have hlen : (bytesI l).length ≤ 105553116266496 := by rw [bytesI_length]; exact hl
  by_cases hin : 32 < c.toNat ∧ c.toNat < 127 ∧ c.toNat ≠ 37
  · have b1 : decide ((c.toNat : Int) > 32) = true := decide_eq_true (by omega)
    have b2 : decide ((c.toNat : Int) < 127) = true := decide_eq_true (by omega)
    have b3 : ((c.toNat : Int) != 37) = true := by simp; omega
    have hesc := Lib.hid (show escC c = [c] from by unfold escC; rw [if_pos hin])
    clear h
    go_enter Try.func78, Try.ntmps78
    go_wp2_with (at_builtin; refine print_append_num (w0 := W) (a + 1) rfl _ _ 56 5 .u8 1 rfl Try.underlying56 info5 (by omega) v (bytesI l) (c.toNat : Int) rfl rfl HH.out.own (Below.refl _ _) (by omega) (by omega) ?_; intro v1 w1 ho hb hg hat; obtain ⟨hc1, hf1, hs⟩ := HH.out.stored ho hg; obtain ⟨n1, A1, c1, e1⟩ : ∃ n A c, v1 = .slice A n c := ⟨_, own_slice ho⟩; subst e1; have HS := Lib.hid hs; clear ho hb hg hat hs)
    go_ret
    exact ⟨rfl, _, by rw [hesc.out, bytesI_append]; exact HS.out.1, HS.out.2⟩
  · have hesc := Lib.hid (show escC c = [37, hexU (c.toNat / 16), hexU (c.toNat % 16)] from by unfold escC; rw [if_neg hin])
    have hand : bits .and .u8 (c.toNat : Int) 15 = (c.toNat : Int) % 16 := u8_and15 _ (by omega) (by omega)
    have i1 : (0 ≤ (c.toNat : Int) / 16 ∧ (c.toNat : Int) / 16 < 16) := by omega
    have i2 : (0 ≤ (c.toNat : Int) % 16 ∧ (c.toNat : Int) % 16 < 16) := by omega
    have x1 := hex_at ((c.toNat : Int) / 16) (c.toNat / 16) (by omega) (by omega)
    have x2 := hex_at ((c.toNat : Int) % 16) (c.toNat % 16) (by omega) (by omega)
    have hnews : ∀ W1 : World, (W.alloc (.cells #[.int .u8 37, .int .u8 ((hexU (c.toNat / 16)).toNat : Int), .int .u8 ((hexU (c.toNat % 16)).toNat : Int)] 5)).drew = W1 → W1.heap[W.heap.size]? = some (.cells (nums .u8 [37, ((hexU (c.toNat / 16)).toNat : Int), ((hexU (c.toNat % 16)).toNat : Int)]).toArray 5 (0, 0)) ∧ W1.ownsRow (a + 1) 5 1 v (bytesI l).length (nums .u8 (bytesI l)) ∧ a + 1 ≤ W1.heap.size ∧ W.grownBy W1 v.ownBlock := by
      rintro W1 rfl
      exact ⟨heap_alloc_new W _, HH.out.own.alloc _, by show a + 1 ≤ (W.alloc _).heap.size; simp; omega, let g := World.grownBy_alloc W (.cells #[.int .u8 37, .int .u8 ((hexU (c.toNat / 16)).toNat : Int), .int .u8 ((hexU (c.toNat % 16)).toNat : Int)] 5) v.ownBlock; ⟨g.os, g.tape, g.output, g.size, g.block⟩⟩
    have HN := Lib.hid hnews
    clear h hnews
    have three : decide ((c.toNat : Int) > 32) = false ∨ (decide ((c.toNat : Int) > 32) = true ∧ decide ((c.toNat : Int) < 127) = false) ∨ (decide ((c.toNat : Int) > 32) = true ∧ decide ((c.toNat : Int) < 127) = true ∧ ((c.toNat : Int) != 37) = false) := by
      by_cases h1 : (c.toNat : Int) > 32
      · by_cases h2 : (c.toNat : Int) < 127
        · exact .inr (.inr ⟨decide_eq_true h1, decide_eq_true h2, by simp; omega⟩)
        · exact .inr (.inl ⟨decide_eq_true h1, decide_eq_false h2⟩)
      · exact .inl (decide_eq_false h1)
    rcases three with b1 | ⟨b1, b2⟩ | ⟨b1, b2, b3⟩
    all_goals
      go_enter Try.func78, Try.ntmps78
      go_wp2_with fail
      refine start_ (n := 10) (S := fun w' => w'.cell? ⟨a, 0, none⟩ = some v) (ds := [8, 9]) #[false, false, false, false, false, false, false, false, false, false] (by kernel_rfl) rfl rfl (by go_simp) (fun hHeld => ?_)
      refine pure_ (i := 1) (N := some 19) (v := ?_) (a' := ?_) #[false, true, false, false, false, false, false, false, false, false] rfl rfl (by kernel_rfl) (fun _ _ _ h => h) (Or.inl ⟨by rfl, ?_⟩) ?_ ?_
      rotate_left
      · intro w'
        go_simp
        with_reducible rfl
      rotate_left
      · simp only [Act.put, List.setIfInBounds_toArray, List.set_cons_zero, List.set_cons_succ, i64_w, i32_w]
        rfl
      refine pure_ (i := 2) (N := some 20) (v := ?_) (a' := ?_) #[false, true, true, false, false, false, false, false, false, false] rfl rfl (by kernel_rfl) (fun _ _ _ h => h) (Or.inl ⟨by rfl, ?_⟩) ?_ ?_
      rotate_left
      · intro w'
        go_simp
        with_reducible rfl
      rotate_left
      · simp only [Act.put, List.setIfInBounds_toArray, List.set_cons_zero, List.set_cons_succ, i64_w, i32_w]
        rfl
      refine pure_ (i := 4) (N := some 22) (v := ?_) (a' := ?_) #[false, true, true, false, true, false, false, false, false, false] rfl rfl (by kernel_rfl) (fun _ _ _ h => h) (Or.inl ⟨by rfl, ?_⟩) ?_ ?_
      rotate_left
      · intro w'
        go_simp
        with_reducible rfl
      rotate_left
      · simp only [Act.put, List.setIfInBounds_toArray, List.set_cons_zero, List.set_cons_succ, i64_w, i32_w]
        rfl
      refine pure_ (i := 5) (N := some 23) (v := ?_) (a' := ?_) #[false, true, true, false, true, true, false, false, false, false] rfl rfl (by kernel_rfl) (fun _ _ _ h => h) (Or.inl ⟨by rfl, ?_⟩) ?_ ?_
      rotate_left
      · intro w'
        go_simp
        with_reducible rfl
      rotate_left
      · simp only [Act.put, List.setIfInBounds_toArray, List.set_cons_zero, List.set_cons_succ, i64_w, i32_w]
        rfl
      refine take_ (i := 0) (N := some 18) (v := ?_) (a' := ?_) #[true, true, true, false, true, true, false, false, false, false] rfl rfl (by kernel_rfl) (fun _ _ _ h => h) (Or.inl ⟨by rfl, ?_⟩) hHeld ?_ ?_
      rotate_left
      · intro w' s0
        go_simp
        with_reducible rfl
      rotate_left
      · simp only [Act.put, List.setIfInBounds_toArray, List.set_cons_zero, List.set_cons_succ, i64_w, i32_w]
        rfl
      refine take_ (i := 3) (N := some 21) (v := ?_) (a' := ?_) #[true, true, true, true, true, true, false, false, false, false] rfl rfl (by kernel_rfl) (fun _ _ _ h => h) (Or.inl ⟨by rfl, ?_⟩) hHeld ?_ ?_
      rotate_left
      · intro w' s0
        go_simp
        with_reducible rfl
      rotate_left
      · simp only [Act.put, List.setIfInBounds_toArray, List.set_cons_zero, List.set_cons_succ, i64_w, i32_w]
        rfl
      refine take_ (i := 6) (N := some 24) (v := ?_) (a' := ?_) #[true, true, true, true, true, true, true, false, false, false] rfl rfl (by kernel_rfl) (fun _ _ _ h => h) (Or.inl ⟨by rfl, ?_⟩) hHeld ?_ ?_
      rotate_left
      · intro w' s0
        go_simp
        with_reducible rfl
      rotate_left
      · simp only [Act.put, List.setIfInBounds_toArray, List.set_cons_zero, List.set_cons_succ, i64_w, i32_w]
        rfl
      refine one_ (i := 7) (N := some 25) #[true, true, true, true, true, true, true, true, false, false] rfl rfl (by kernel_rfl) (by decide) (fun K hK => ?_)
      refine value_ (w1 := ?_) (v := ?_) (by rfl) rfl ?_ ?_
      rotate_left 2
      · go_simp
        constructor
        · rfl
        · rfl
      refine hK.out _ _ (by go_simp) (fun hHeld => ?_)
      clear hK K
      refine norm_ (a' := ?_) ?_ ?_
      rotate_left
      · show Act.put _ (some 25) _ = _
        simp only [Act.put, List.setIfInBounds_toArray, List.set_cons_zero, List.set_cons_succ, i64_w, i32_w]
        rfl
      refine last_ (i := 8) (N := some 26) #[true, true, true, true, true, true, true, true, true, false] rfl rfl (by kernel_rfl) (by decide) (fun K hK => ?_)
      obtain ⟨hg1, hg2, hg3, hg4⟩ := HN.out _ rfl
      refine step_append_news _ (a + 1) (by rfl) (.tmp 18) (.tmp 25) 56 5 .u8 1 rfl Try.underlying56 info5 (by omega) v (bytesI l) [37, ((hexU (c.toNat / 16)).toNat : Int), ((hexU (c.toNat % 16)).toNat : Int)] W.heap.size 3 (0, 0) rfl rfl hg1 hg2 hg3 (by simp only [List.length_cons, List.length_nil]; omega) ?_
      intro v1 w1 ho hg
      obtain ⟨hc1, hf1, hs⟩ := HH.out.stored ho (hg4.trans hg)
      obtain ⟨n1, A1, c1, e1⟩ : ∃ n A c, v1 = .slice A n c := ⟨_, own_slice ho⟩
      subst e1
      have HS := Lib.hid hs
      clear ho hg hs hg1 hg2 hg3 hg4
      refine hK.out _ _ ?_
      clear hK K
      refine norm_ (a' := ?_) ?_ ?_
      rotate_left
      · show Act.put _ (some 26) _ = _
        simp only [Act.put, List.setIfInBounds_toArray, List.set_cons_zero, List.set_cons_succ, i64_w, i32_w]
        rfl
      refine last_ (i := 9) (N := none) #[true, true, true, true, true, true, true, true, true, true] rfl rfl (by kernel_rfl) (by decide) (fun K hK => ?_)
      refine skip_ (w1 := ?_) (by rfl) rfl ?_ ?_
      rotate_left
      · go_simp
        rfl
      refine hK.out _ _ ?_
      clear hK K
      refine done_ (by kernel_rfl) ?_
      go_wp2
      go_ret
      exact ⟨rfl, _, by rw [hesc.out, bytesI_append]; exact HS.out.1, HS.out.2⟩

theorem dsize (s : ByteArray) : s.data.toList.length = s.size := by rw [Array.length_toList]; rfl

theorem strOf_bytesI (l : List UInt8) : strOfNums (bytesI l) = ⟨l.toArray⟩ := by
  unfold strOfNums bytesI
  congr 2
  rw [List.map_map]
  conv => rhs; rw [← List.map_id l]
  apply List.map_congr_left
  intro c _
  simp

theorem hF_esc : ∀ args (W : World), (callFunc 78 args).run Try.prog W = .ok (.enter 78 args) W :=
  fun args W => enters_ Try.func78 (by kernel_rfl) rfl args W

set_option maxHeartbeats 400000 in
set_option maxRecDepth 100000 in
theorem esc_calls (s : ByteArray) (w : World) (hs : s.size ≤ 35184372088832) :
    Calls Try.prog 55 #[.string s] w fun e w' => e = .returned (.string (escB s)) ∧ Below w.heap.size w w' := by
  by_cases h0 : s.toList = []
  · have hb : escB s = ⟨#[37]⟩ := by
      have : s.data.toList = [] := by simpa [ByteArray.toList_eq] using h0
      unfold escB escL; rw [if_pos this]
    have HB := Lib.hid hb
    clear hb
    go_enter Try.func55, Try.ntmps55
    go_wp2
    go_ret
    exact ⟨by rw [HB.out]; rfl, Below.refl _ _⟩
  · have hb : escB s = ⟨((s.data.toList.take s.size).flatMap escC).toArray⟩ := by
      have : ¬ s.data.toList = [] := by simpa [ByteArray.toList_eq] using h0
      unfold escB escL; rw [if_neg this, List.take_of_length_le (by rw [dsize]; omega)]
    have HB := Lib.hid hb
    clear hb
    have h1 : s.toList.isEmpty = false := by simpa using h0
    go_enter Try.func55, Try.ntmps55
    go_wp2_with fail
    refine (each_calls s 78 _ hF_esc (fun k W => ∃ v, Holds w.heap.size (bytesI ((s.data.toList.take k).flatMap escC)) v W ∧ Below w.heap.size w W) (fun _ => False) _ (by omega) ?_ ?_).mono ?_
    · exact ⟨.slice none 0 0, ⟨heap_alloc_new w _, own_nil _ _ _ _⟩, (Below.refl _ _).alloc (Nat.le_refl _) _⟩
    · rintro i hi W ⟨v, hH, hB⟩
      have hlen : ((s.data.toList.take i).flatMap escC).length ≤ 105553116266496 := by
        have := flat_len (s.data.toList.take i)
        have := List.length_take_le i s.data.toList
        have := dsize s
        omega
      refine (esc1_calls s[i] w.heap.size _ v W hH hlen).mono ?_
      rintro e W' ⟨rfl, v', h2, h3⟩
      refine .inl ⟨rfl, v', ?_, hB.trans h3⟩
      have : s.data.toList.take (i + 1) = s.data.toList.take i ++ [s[i]] := by
        rw [List.take_succ_eq_append_getElem (by rw [dsize]; exact hi)]; rfl
      rw [this, List.flatMap_append]
      simpa using h2
    · rintro e w' (⟨rfl, v, hH, hB⟩ | ⟨_, h⟩)
      · have hv : w'.cell? ⟨w.heap.size, 0, none⟩ = some v := cell_of_one hH.cell
        have hcv := own_string (P := Try.prog) Try.underlying56 Try.underlying5 Try.underlying9 hH.own
        rw [strOf_bytesI, ← HB.out] at hcv
        have HBl := Lib.hid hB
        clear hH hB
        go_wp2
        go_ret
        exact ⟨rfl, HBl.out⟩
      · exact h.elim

end Go.Proofs.Ytnpmkaklkonofaa.Txt
