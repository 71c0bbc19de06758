/-
  Layer 15: the law's examples. Conditions: none.
-/
import Derived.Test.YtmjpjjnhlgidcaaKd
import Derived.Laws.AppendOwn
import Derived.Laws.MakeOwn
import Derived.OwnWalk
namespace Go.Proofs.Ytmjpjjnhlgidcaa
open Go.RowKit Go.Sort
set_option linter.unusedSimpArgs false
set_option linter.unusedVariables false

theorem addr_add (b j : Nat) : (⟨b, 0, none⟩ : Addr).add j = ⟨b, j, none⟩ := by
  unfold Addr.add; split <;> simp_all
theorem ownsRow_later {w w' : World} {base n : Nat} {e : TypeId} {size : Nat} {v : Value} {xs : List Value} (h : w.ownsRow base e size v n xs) (hl : Later w w') : w'.ownsRow base e size v n xs :=
  h.kept (row := none) ⟨hl.os, hl.tape, hl.output, hl.size, fun k hk _ => hl.block k hk⟩ (by cases v.ownBlock <;> simp)
theorem info27 : (Try.prog.info? 27).map (fun i => (i.zero, i.size, i.bytes)) = some (some (.int .i64 0), 1, 8) := by kernel_rfl
/-- deeds as cells -/
def dcs (l : List Int) : List Value := l.map (Value.int .i64)
theorem dcs_snoc (l : List Int) (d : Int) : dcs l ++ [.int .i64 d] = dcs (l ++ [d]) := by simp [dcs]
theorem Of_row (l : List Int) (v : Value) (n base : Nat) (hn : n = l.length) (h0 : 0 < n) (hm : n ≤ 4611686018427387904) (w : World) (h : w.ownsRow base 27 1 v n (dcs l)) :
    Calls Try.prog 9 #[v] w fun e w' => e = .returned (.complex .f64 (ldR l) (ldI l)) ∧ Later w w' := by
  obtain ⟨hlen, h1 | ⟨g, cap, cur, rfl, hb, hg, hc, hcap, hsz, hcur⟩⟩ := h
  · omega
  · rw [hn]
    refine Of_is g 0 l cap (by omega) w (Array.getElem?_eq_some_iff.1 hg).1 (fun i hi => ?_)
    have h2 : cur.toList[i]? = some (.int .i64 (l.getD i 0)) := by
      have h3 : (cur.toList.take (n * 1))[i]? = cur.toList[i]? := List.getElem?_take_of_lt (by omega)
      rw [← h3, hcur, dcs, List.getElem?_map, List.getD_eq_getElem?_getD, List.getElem?_eq_getElem hi]; rfl
    simp only [World.cell?, hg, Nat.zero_add]
    simpa using h2
theorem Of_new (l : List Int) (h0 : 0 < l.length) (hm : l.length ≤ 1000) (V : World) (n : Nat) (hn : n = l.length) (p q : Nat) (hp : ldR l = p) (hq : ldI l = q) (c : Nat) :
    Calls Try.prog 9 #[.slice (some ⟨V.heap.size, 0, none⟩) n c] (V.alloc (.cells (dcs l).toArray 27)) fun e w' => e = .returned (.complex .f64 p q) ∧ Later V w' := by
  subst hp hq hn
  refine (Of_is V.heap.size 0 l c (by omega) _ (by simp) (fun i hi => ?_)).mono ?_
  · rw [World.cell?_alloc_new, Nat.zero_add]
    simp [dcs, hi]
  · rintro e w' ⟨rfl, hl⟩
    exact ⟨rfl, ((Later.refl V).alloc _).trans hl⟩
set_option maxRecDepth 100000 in
set_option maxHeartbeats 2000000 in
theorem awake_is (w : World) : Calls Try.prog 5 #[] w fun e w' => e = .returned (.bool true) ∧ Later w w' := by
  obtain ⟨i0, hi0, hiz, his, hib⟩ := info_parts info27
  have hown0 : (w.alloc (.cells #[.int .i64 1] 27)).ownsRow w.heap.size 27 1 (.slice (some ⟨w.heap.size, 0, none⟩) 1 1) (0 + 1) (dcs (dk 0)) :=
    ⟨rfl, .inr ⟨w.heap.size, 1, #[.int .i64 1], rfl, Nat.le_refl _, heap_alloc_last _ _, by omega, by unfold maxLen; omega, rfl, rfl⟩⟩
  have hl0 : Later w (w.alloc (.cells #[.int .i64 1] 27)) := (Later.refl w).alloc _
  have HO := Lib.hid (And.intro hown0 hl0)
  clear hown0 hl0
  go_enter Try.func5, Try.ntmps5
  go_wp2_with fail
  go_loopw [1, 2] (fun s1 s2 wr => ∃ k : Nat, k ≤ 1074 ∧ s2 = .int .i64 k ∧ wr.ownsRow w.heap.size 27 1 s1 (k + 1) (dcs (dk k)) ∧ Later w wr) (fun _ s2 _ => 1074 - (RowKit.intOf s2).toNat)
  case atStart => exact ⟨0, by omega, rfl, HO.out.1, HO.out.2⟩
  case round =>
    clear HO
    obtain ⟨k, hk, rfl, hown, hl⟩ := hrel
    rename World => wk
    by_cases hlt : k < 1074
    · have hd1 : decide ((k : Int) < 1074) = true := by simp; omega
      have hd2 : decide (k < 1074) = true := by simp; omega
      have hs : w.heap.size ≤ wk.heap.size := hl.size
      have HOWN := Lib.hid hown
      have HL := Lib.hid hl
      clear hown hl
      go_wp2_with (first | (refine wpList_append_own _ rfl (.tmp 9) (.tmp 10) 22 rfl w.heap.size 27 i0 _ 1 8 Try.underlying22 hi0 hiz his hib rfl (by decide) _ _ _ rfl (HOWN.out.alloc _) ⟨wk.heap.size, 0, none⟩ 1 1 [.int .i64 7] rfl rfl ?c1 ?c2 ?c3 ?c4 ?c5 ?_))
      case c1 => exact fun j u hu => by rw [addr_add, World.cell?_alloc_new]; simpa using hu
      case c2 => exact fun u hu => by revert u; simp [Value.oneCell']
      case c3 => (unfold maxLen; omega)
      case c4 => omega
      case c5 => (simp; omega)
      intro v' w6 hown' hgrow _
      rw [dcs_snoc, dk_next] at hown'
      have hl6 : Later w w6 := Below.grown (HL.out.alloc _) hgrow (HL.out.alloc _).size (fun j hj => (HOWN.out.lt j hj).1)
      have HN := Lib.hid (And.intro hown' hl6)
      clear hown' hgrow hl6
      go_wp2_with fail
      refine ⟨⟨k + 1, by omega, by rw [Int.natCast_add]; rfl, HN.out.1, HN.out.2⟩, ?_⟩
      show 1074 - ((k : Int) + 1).toNat < 1074 - ((k : Int)).toNat
      omega
    · obtain rfl : k = 1074 := by omega
      have hd1 : decide ((1074 : Int) < 1074) = false := by decide
      have hd2 : decide (1074 < 1074) = false := by decide
      have hs : w.heap.size ≤ wk.heap.size := hl.size
      have HOWN := Lib.hid hown
      have HL := Lib.hid hl
      clear hown hl
      have hf : ∀ w, (callFunc 11 #[.int .u64 1]).run Try.prog w = .ok (.value (.float .f64 1)) w := fun w => frombits_run 1 w
      have q1 : ∀ W : World, (binOp .eql 24 (.complex .f64 4607182418800017408 0) (.complex .f64 4607182418800017408 0)).run Try.prog W = .ok (.bool true) W := fun W => by kernel_rfl
      have q2 : ∀ W : World, (binOp .eql 24 (.complex .f64 4609434218613702656 0) (.complex .f64 4609434218613702656 0)).run Try.prog W = .ok (.bool true) W := fun W => by kernel_rfl
      have q3 : ∀ W : World, (binOp .eql 24 (.complex .f64 4602678819172646912 4607182418800017408) (.complex .f64 4602678819172646912 4607182418800017408)).run Try.prog W = .ok (.bool true) W := fun W => by kernel_rfl
      have q4 : ∀ W : World, (binOp .eql 24 (.complex .f64 4602678819172646912 0) (.complex .f64 4602678819172646912 0)).run Try.prog W = .ok (.bool true) W := fun W => by kernel_rfl
      have q5 : ∀ W : World, (binOp .eql 24 (.complex .f64 1 0) (.complex .f64 1 0)).run Try.prog W = .ok (.bool true) W := fun W => by kernel_rfl
      have q6 : ∀ W : World, (binOp .eql 24 (.complex .f64 0 0) (.complex .f64 0 0)).run Try.prog W = .ok (.bool true) W := fun W => by kernel_rfl
      have HL0 := HL
      have HOWN0 := HOWN
      clear HL HOWN hk hlt
      go_wp2_with fail
      refine (Of_new [1] (by simp) (by simp) _ 1 rfl 4607182418800017408 0 (by kernel_rfl) (by kernel_rfl) _).mono ?_
      rintro e w1 ⟨rfl, hl1⟩
      have HL1 := Lib.hid (HL0.out.trans hl1)
      have HOWN1 := Lib.hid (ownsRow_later HOWN0.out hl1)
      clear hl1 HL0 HOWN0
      go_wp2_with fail
      refine (Of_new [1, 1] (by simp) (by simp) _ 2 rfl 4609434218613702656 0 (by kernel_rfl) (by kernel_rfl) _).mono ?_
      rintro e w2 ⟨rfl, hl2⟩
      have HL2 := Lib.hid (HL1.out.trans hl2)
      have HOWN2 := Lib.hid (ownsRow_later HOWN1.out hl2)
      clear hl2 HL1 HOWN1
      go_wp2_with fail
      refine (Of_new [1, 2] (by simp) (by simp) _ 2 rfl 4602678819172646912 4607182418800017408 (by kernel_rfl) (by kernel_rfl) _).mono ?_
      rintro e w3 ⟨rfl, hl3⟩
      have HL3 := Lib.hid (HL2.out.trans hl3)
      have HOWN3 := Lib.hid (ownsRow_later HOWN2.out hl3)
      clear hl3 HL2 HOWN2
      go_wp2_with fail
      refine (Of_new [1, 7] (by simp) (by simp) _ 2 rfl 4602678819172646912 0 (by kernel_rfl) (by kernel_rfl) _).mono ?_
      rintro e w4 ⟨rfl, hl4⟩
      have HL4 := Lib.hid (HL3.out.trans hl4)
      have HOWN4 := Lib.hid (ownsRow_later HOWN3.out hl4)
      clear hl4 HL3 HOWN3
      go_wp2_with fail
      refine (weigh_is 4602678819172646912 4607182418800017408 (by decide) (by decide) _).mono ?_
      rintro e w5 ⟨rfl, hl5⟩
      rw [show wgN 4602678819172646912 4607182418800017408 = 2 by kernel_rfl]
      have HL5 := Lib.hid (HL4.out.trans hl5)
      have HOWN5 := Lib.hid (ownsRow_later HOWN4.out hl5)
      clear hl5 HL4 HOWN4
      go_wp2_with fail
      refine (Of_row (dk 1074) _ (1074 + 1) w.heap.size (by rw [dk_length]) (by omega) (by omega) _ HOWN5.out).mono ?_
      rintro e w6 ⟨rfl, hl6⟩
      rw [dk_R, dk_I]
      have HL6 := Lib.hid (HL5.out.trans hl6)
      have HOWN6 := Lib.hid (ownsRow_later HOWN5.out hl6)
      have hs6 : w.heap.size ≤ w6.heap.size := HL6.out.size
      clear hl6 HL5 HOWN5
      go_wp2_with (at_builtin; refine wpList_step fun K hK => ?_; rw [if_pos (by rfl)]; refine wp_append_own (o := Oper.mk (some 45) (.call ⟨.builtin .append, #[.tmp 43, .tmp 44], #[22, 22]⟩) 22 _ #[⟨30, .data⟩, ⟨31, .data⟩, ⟨29, .chain⟩, ⟨29, .guard⟩] (some (29, true))) _ (.tmp 43) (.tmp 44) 22 rfl w.heap.size 27 i0 _ 1 8 Try.underlying22 hi0 hiz his hib rfl (by decide) _ _ _ rfl (HOWN6.out.alloc _) ⟨w6.heap.size, 0, none⟩ 1 1 [.int .i64 7] rfl rfl ?c1 ?c2 ?c3 ?c4 ?c5 ?_)
      case c1 => exact fun j u hu => by rw [addr_add, World.cell?_alloc_new]; simpa using hu
      case c2 => exact fun u hu => by revert u; simp [Value.oneCell']
      case c3 => (unfold maxLen; omega)
      case c4 => omega
      case c5 => (simp; omega)
      intro v' w7 hown' hgrow _
      rw [dcs_snoc, dk_next] at hown'
      have hl7 : Later w w7 := Below.grown (HL6.out.alloc _) hgrow (HL6.out.alloc _).size (fun j hj => (HOWN6.out.lt j hj).1)
      have HN := Lib.hid (And.intro hown' hl7)
      clear hown' hgrow hl7 HOWN6 HL6
      apply hK
      clear hK
      go_wp2_with fail
      refine (Of_row (dk 1075) _ (1074 + 1 + 1) w.heap.size (by rw [dk_length]) (by omega) (by omega) _ HN.out.1).mono ?_
      rintro e w8 ⟨rfl, hl8⟩
      rw [dk_R2, dk_I2]
      go_wp2_with fail
      go_ret
      exact ⟨rfl, HN.out.2.trans hl8⟩
end Go.Proofs.Ytmjpjjnhlgidcaa
