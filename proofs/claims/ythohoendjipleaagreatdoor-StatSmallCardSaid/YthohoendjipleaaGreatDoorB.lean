/-
  The walks of package load: what a deed adds, a step, the load of a list of deeds. Conditions: the words are those of numbers from 0 to 2.
-/
import Derived.Test.YthohoendjipleaaGreatDoorA
namespace Go.Proofs.YthohoendjipleaaGreatDoor
open Go.RowKit

/-- what a deed adds -/
def addR (d : Int) : Nat := if d = 1 ∨ d = 5 ∨ d = 6 then W1 else 0
def addI (d : Int) : Nat := if d = 2 ∨ d = 3 ∨ d = 4 then W1 else 0
def addE : List MapEntry := [⟨.int .i64 1, .complex .f64 4607182418800017408 0, 0⟩, ⟨.int .i64 5, .complex .f64 4607182418800017408 0, 1⟩, ⟨.int .i64 6, .complex .f64 4607182418800017408 0, 2⟩, ⟨.int .i64 2, .complex .f64 0 4607182418800017408, 3⟩, ⟨.int .i64 3, .complex .f64 0 4607182418800017408, 4⟩, ⟨.int .i64 4, .complex .f64 0 4607182418800017408, 5⟩]
theorem run_add (w : World) (d : Int) :
    (Instr.lookup 150 (.map (some w.heap.size)) (.int .i64 d) false).run Tryz.prog (w.alloc (.map addE.toArray 6)) = .ok (.complex .f64 (addR d) (addI d)) (w.alloc (.map addE.toArray 6)) := by
  have hB := (MapKept.heap_alloc w (.map addE.toArray 6)).1
  by_cases h : d = 1 ∨ d = 5 ∨ d = 6 ∨ d = 2 ∨ d = 3 ∨ d = 4
  · rcases h with rfl | rfl | rfl | rfl | rfl | rfl
    · exact run_look 150 25 Tryz.underlying150 _ _ _ _ hB 1 0 _ (by simp [addE, addR, addI, W1, Instr.findNow, Instr.sameNow])
    · exact run_look 150 25 Tryz.underlying150 _ _ _ _ hB 5 1 _ (by simp [addE, addR, addI, W1, Instr.findNow, Instr.sameNow])
    · exact run_look 150 25 Tryz.underlying150 _ _ _ _ hB 6 2 _ (by simp [addE, addR, addI, W1, Instr.findNow, Instr.sameNow])
    · exact run_look 150 25 Tryz.underlying150 _ _ _ _ hB 2 3 _ (by simp [addE, addR, addI, W1, Instr.findNow, Instr.sameNow])
    · exact run_look 150 25 Tryz.underlying150 _ _ _ _ hB 3 4 _ (by simp [addE, addR, addI, W1, Instr.findNow, Instr.sameNow])
    · exact run_look 150 25 Tryz.underlying150 _ _ _ _ hB 4 5 _ (by simp [addE, addR, addI, W1, Instr.findNow, Instr.sameNow])
  · have e1 : addR d = 0 := by unfold addR; rw [if_neg (by omega)]
    have e2 : addI d = 0 := by unfold addI; rw [if_neg (by omega)]
    rw [e1, e2]
    have n1 : (d == 1) = false := by simp; omega
    have n2 : (d == 2) = false := by simp; omega
    have n3 : (d == 3) = false := by simp; omega
    have n4 : (d == 4) = false := by simp; omega
    have n5 : (d == 5) = false := by simp; omega
    have n6 : (d == 6) = false := by simp; omega
    exact run_miss 150 25 Tryz.underlying150 _ _ _ _ hB d _ (by kernel_rfl) (by simp [addE, Instr.findNow, Instr.sameNow, n1, n2, n3, n4, n5, n6])
theorem adds_is (d : Int) (w : World) : Calls Tryz.prog 74 #[.int .i64 d] w fun e w' => e = .returned (.complex .f64 (addR d) (addI d)) ∧ Later w w' := by
  have h0 := run_makeMap (P := Tryz.prog) 150 w
  have p1 := run_put 150 25 Tryz.underlying150 w #[] 0 1 (.complex .f64 4607182418800017408 0) (by simp [Instr.findNow])
  have p2 := run_put 150 25 Tryz.underlying150 w (addE.take 1).toArray 1 5 (.complex .f64 4607182418800017408 0) (by simp [addE, Instr.findNow, Instr.sameNow])
  have p3 := run_put 150 25 Tryz.underlying150 w (addE.take 2).toArray 2 6 (.complex .f64 4607182418800017408 0) (by simp [addE, Instr.findNow, Instr.sameNow])
  have p4 := run_put 150 25 Tryz.underlying150 w (addE.take 3).toArray 3 2 (.complex .f64 0 4607182418800017408) (by simp [addE, Instr.findNow, Instr.sameNow])
  have p5 := run_put 150 25 Tryz.underlying150 w (addE.take 4).toArray 4 3 (.complex .f64 0 4607182418800017408) (by simp [addE, Instr.findNow, Instr.sameNow])
  have p6 := run_put 150 25 Tryz.underlying150 w (addE.take 5).toArray 5 4 (.complex .f64 0 4607182418800017408) (by simp [addE, Instr.findNow, Instr.sameNow])
  have g := run_add w d
  generalize addR d = p at *
  generalize addI d = q at *
  simp only [addE, List.take, List.push_toArray, List.nil_append, List.cons_append, Nat.reduceAdd] at p1 p2 p3 p4 p5 p6 g
  go_enter Tryz.func74, Tryz.ntmps74
  go_wp2_with fail
  go_ret
  exact ⟨rfl, by repeat (first | exact Later.refl _ | assumption | apply Later.alloc | apply Later.drew | apply Later.drewN | refine Later.trans ?_ (by assumption))⟩

/-- a part, halved; with what a deed adds -/
def hvW (a : Nat) : Nat := (Ieee.double.div a W2).getD 0
def nxW (a p : Nat) : Nat := (Ieee.double.add (hvW a) p).getD 0
theorem hvW_is (a : Nat) (ha : a ≤ W2) : Ieee.double.div a W2 = some (hvW a) ∧ hvW a ≤ W1 := by
  obtain ⟨h, h1, h2⟩ := half_le a ha
  rw [hvW, h2]
  exact ⟨rfl, h1⟩
theorem nxW_is (a p : Nat) (ha : a ≤ W2) (hp : p = 0 ∨ p = W1) : Ieee.double.add (hvW a) p = some (nxW a p) ∧ nxW a p ≤ W2 := by
  have h := (hvW_is a ha).2
  rcases hp with rfl | rfl
  · obtain ⟨x, h1, h2⟩ := add0_le (hvW a) h
    rw [nxW, h2]
    exact ⟨rfl, by unfold W1 at h1; unfold W2; simp only [Option.getD_some]; omega⟩
  · obtain ⟨x, h1, h2⟩ := add1_le (hvW a) h
    rw [nxW, h2]
    exact ⟨rfl, h1⟩
theorem addR_01 (d : Int) : addR d = 0 ∨ addR d = W1 := by unfold addR; split <;> simp
theorem addI_01 (d : Int) : addI d = 0 ∨ addI d = W1 := by unfold addI; split <;> simp
def nextR (a : Nat) (d : Int) : Nat := nxW a (addR d)
def nextI (a : Nat) (d : Int) : Nat := nxW a (addI d)
theorem nextR_le (a : Nat) (d : Int) (ha : a ≤ W2) : nextR a d ≤ W2 := (nxW_is a _ ha (addR_01 d)).2
theorem nextI_le (a : Nat) (d : Int) (ha : a ≤ W2) : nextI a d ≤ W2 := (nxW_is a _ ha (addI_01 d)).2

theorem with_is (a b : Nat) (d : Int) (ha : a ≤ W2) (hb : b ≤ W2) (w : World) :
    Calls Tryz.prog 54 #[.agg #[.complex .f64 a b], .int .i64 d] w fun e w' => e = .returned (.complex .f64 (nextR a d) (nextI b d)) ∧ Later w w' := by
  have hx := (hvW_is a ha).1
  have hy := (hvW_is b hb).1
  have hs : ∀ w : World, (binOp .add 25 (.complex .f64 (hvW a) (hvW b)) (.complex .f64 (addR d) (addI d))).run Tryz.prog w = .ok (.complex .f64 (nextR a d) (nextI b d)) w := fun w =>
    run_complex_sum w .add (.inl rfl) 25 .f64 _ _ _ _ _ _ (by
      unfold cSumBits
      rw [show floatBits .add .f64 (hvW a) (addR d) = some (nextR a d) from (nxW_is a _ ha (addR_01 d)).1, show floatBits .add .f64 (hvW b) (addI d) = some (nextI b d) from (nxW_is b _ hb (addI_01 d)).1]
      rfl)
  have H1 := Lib.hid hx
  have H2 := Lib.hid hy
  clear ha hb hx hy
  generalize nextR a d = x at *
  generalize nextI b d = y at *
  generalize hvW a = a' at *
  generalize hvW b = b' at *
  go_enter Tryz.func54, Tryz.ntmps54
  go_wp2_with fail
  refine (half_is a b a' b' H1.out H2.out _).mono ?_
  rintro e w1 ⟨rfl, rfl⟩
  go_wp2_with fail
  refine (adds_is d _).mono ?_
  rintro e w2 ⟨rfl, hb2⟩
  go_wp2_with fail
  go_ret
  exact ⟨rfl, by repeat (first | exact Later.refl _ | assumption | apply Later.alloc | apply Later.drew | apply Later.drewN | refine Later.trans ?_ (by assumption))⟩
theorem Next_is (a b : Nat) (d : Int) (ha : a ≤ W2) (hb : b ≤ W2) (w : World) :
    Calls Tryz.prog 48 #[.complex .f64 a b, .int .i64 d] w fun e w' => e = .returned (.tuple #[.complex .f64 (nextR a d) (nextI b d), .bool true]) ∧ Later w w' := by
  have hst := run_store_complex Tryz.prog
  go_enter Tryz.func48, Tryz.ntmps48
  go_wp2_with fail
  refine (is_is a b ha hb _).mono ?_
  rintro e w1 ⟨rfl, rfl⟩
  go_wp2_with fail
  refine (with_is a b d ha hb _).mono ?_
  rintro e w2 ⟨rfl, hb2⟩
  go_wp2_with fail
  go_ret2
  exact ⟨rfl, by repeat (first | exact Later.refl _ | assumption | apply Later.alloc | apply Later.drew | apply Later.drewN | refine Later.trans ?_ (by assumption))⟩
theorem statIs_is (x0 x1 x2 x3 x4 x5 x6 x7 x8 x9 : Int) (a b : Nat) (ha : a ≤ W2) (hb : b ≤ W2) (w : World) :
    Calls Tryz.prog 14 #[.agg #[.int .u64 x0, .int .u64 x1, .int .u64 x2, .int .u64 x3, .int .u64 x4, .int .u64 x5, .int .u64 x6, .int .u64 x7, .int .u64 x8, .int .u64 x9, .complex .f64 a b]] w fun e w' => e = .returned (.bool true) ∧ Later w w' := by
  go_enter Tryz.func14, Tryz.ntmps14
  go_wp2_with fail
  refine (Is_is a b ha hb _).mono ?_
  rintro e w1 ⟨rfl, rfl⟩
  go_wp2_with fail
  go_ret
  exact ⟨rfl, by repeat (first | exact Later.refl _ | assumption | apply Later.alloc | apply Later.drew | apply Later.drewN | refine Later.trans ?_ (by assumption))⟩

/-- the load of a list of deeds -/
def ldR (l : List Int) : Nat := l.foldl nextR 0
def ldI (l : List Int) : Nat := l.foldl nextI 0
theorem ldR_le (l : List Int) : ldR l ≤ W2 := by
  have : ∀ (l : List Int) (a : Nat), a ≤ W2 → l.foldl nextR a ≤ W2 := by
    intro l
    induction l with
    | nil => exact fun a h => h
    | cons d r ih => exact fun a h => ih _ (nextR_le a d h)
  exact this l 0 (by omega)
theorem ldI_le (l : List Int) : ldI l ≤ W2 := by
  have : ∀ (l : List Int) (a : Nat), a ≤ W2 → l.foldl nextI a ≤ W2 := by
    intro l
    induction l with
    | nil => exact fun a h => h
    | cons d r ih => exact fun a h => ih _ (nextI_le a d h)
  exact this l 0 (by omega)
theorem ldR_snoc (l : List Int) (d : Int) : ldR (l ++ [d]) = nextR (ldR l) d := by simp [ldR, List.foldl_append]
theorem ldI_snoc (l : List Int) (d : Int) : ldI (l ++ [d]) = nextI (ldI l) d := by simp [ldI, List.foldl_append]
theorem take_snocD (l : List Int) (k : Nat) (h : k < l.length) : l.take (k + 1) = l.take k ++ [l.getD k 0] := by
  rw [List.take_succ_eq_append_getElem h, List.getD, List.getElem?_eq_getElem h]; rfl
def LdIs (l : List Int) (p q : Nat) : Prop := ldR l = p ∧ ldI l = q
set_option maxRecDepth 100000 in
set_option maxHeartbeats 1000000 in
theorem Of_is (b o : Nat) (l : List Int) (cap : Nat) (hl : l.length ≤ 4611686018427387904) (w : World) (hB : b < w.heap.size)
    (hc : ∀ i, i < l.length → w.cell? ⟨b, o + i, none⟩ = some (.int .i64 (l.getD i 0))) :
    Calls Tryz.prog 29 #[.slice (some ⟨b, o, none⟩) l.length cap] w fun e w' => e = .returned (.complex .f64 (ldR l) (ldI l)) ∧ Later w w' := by
  have HC := Lib.hid hc
  clear hc
  go_enter Tryz.func29, Tryz.ntmps29
  go_wp2_with fail
  go_loopw [2, 7] (fun v i wr => ∃ (k p q : Nat), k ≤ l.length ∧ i = .int .i64 k ∧ v = .complex .f64 p q ∧ LdIs (l.take k) p q ∧ Later w wr) (fun _ i _ => l.length - (RowKit.intOf i).toNat)
  case atStart => exact ⟨0, 0, 0, by omega, rfl, rfl, ⟨rfl, rfl⟩, Later.refl _⟩
  case round =>
    obtain ⟨k, p, q, hk, rfl, rfl, hLd, hlr⟩ := hrel
    rename World => wk
    have hp : p ≤ W2 := by rw [← hLd.1]; exact ldR_le _
    have hq : q ≤ W2 := by rw [← hLd.2]; exact ldI_le _
    have HL := Lib.hid hLd
    clear hLd
    by_cases hlt : k < l.length
    · have hd : decide (k < l.length) = true := by simpa using hlt
      have hc : wk.cell? ⟨b, o + k, none⟩ = some (.int .i64 (l.getD k 0)) := cell_at hlr (HC.out k hlt) hB
      obtain ⟨d, hd'⟩ : ∃ d, l.getD k 0 = d := ⟨_, rfl⟩
      rw [hd'] at hc
      have HD := Lib.hid hd'
      clear hd'
      go_wp2_with fail
      refine (with_is p q d hp hq _).mono ?_
      rintro e w1 ⟨rfl, hb1⟩
      go_wp2_with fail
      go_roundw
      case rel => exact ⟨k + 1, _, _, by omega, by go_num, rfl, ⟨by rw [take_snocD l k hlt, ldR_snoc, HL.out.1, HD.out], by rw [take_snocD l k hlt, ldI_snoc, HL.out.2, HD.out]⟩, hlr.trans hb1⟩
      case measure => simp [RowKit.intOf]; omega
    · obtain rfl : k = l.length := by omega
      have e : l.take l.length = l := List.take_of_length_le (Nat.le_refl _)
      go_wp2_with fail
      go_ret
      refine ⟨?_, hlr⟩
      have h9 := HL.out
      rw [e] at h9
      rw [h9.1, h9.2]
      rfl
theorem Of_nil (w : World) : Calls Tryz.prog 29 #[.slice none 0 0] w fun e w' => e = .returned (.complex .f64 0 0) ∧ Later w w' := by
  go_enter Tryz.func29, Tryz.ntmps29
  go_wp2_with fail
  refine wp_loop_rounds 1 ?_
  rw [rounds_succ]
  go_wp2_with fail
  go_ret
  exact ⟨rfl, by repeat (first | exact Later.refl _ | assumption | apply Later.alloc | apply Later.drew | apply Later.drewN | refine Later.trans ?_ (by assumption))⟩
end Go.Proofs.YthohoendjipleaaGreatDoor
