/-
 Texts of this proof, put together (FqR): each part's first words say what it holds. Conditions: as each part says.
-/
import Derived.Test.YtkbedajbbakihaaGreatDoorQe1
/-
 Plain: a script's text; it is read back; what is read can be written; texts one after the other. Conditions: none.
-/
namespace Go.Proofs.YtkbedajbbakihaaGreatDoor
open Go.Lib
set_option linter.unusedSimpArgs false
set_option linter.unusedVariables false

theorem line_ent {l : List UInt8} {e : Int × Req} (h : lnP (l, true) = some (.inr e)) : entL e = some (l ++ [10]) := by
 unfold lnP at h
 rw [if_pos rfl] at h
 obtain ⟨w, t, hw⟩ := spl_ex l
 have hl := jn_spl l
 dsimp only at h
 rw [hw] at h hl
 rw [wsP] at h
 split at h
 ·cases hp : pksR t with
  | none => rw [hp] at h; cases h
  | some y => rw [hp] at h; cases h
 ·cases hn : num w with
  | none => rw [hn] at h; cases h
  | some n =>
   rw [hn, Option.bind_some] at h
   cases hr : readR t with
   | none => rw [hr] at h; cases h
   | some r =>
    rw [hr] at h
    cases h
    obtain ⟨h1, h2⟩ := (num_iff w n).1 hn
    unfold entL
    rw [showP_of_read hr, Option.bind_some, if_pos h1]
    have ht : t ≠ [] := by rintro rfl; cases hr
    cases t with
    | nil => exact absurd rfl ht
    | cons b t => rw [← hl, h2]; rfl
theorem clnT_ents (es : List (Int × Req)) : ∀ a, entsL es = some a → ClnT a := by
 induction es with
 | nil => intro a h; cases h; intro c hc; cases hc
 | cons e t ih =>
  intro a h
  rw [entsL] at h
  cases he : entL e with
  | none => rw [he] at h; cases h
  | some x =>
   rw [he, Option.bind_some] at h
   cases ht : entsL t with
   | none => rw [ht] at h; cases h
   | some b =>
    rw [ht] at h
    cases h
    obtain ⟨l, rfl, hc, hl⟩ := ent_line he
    exact (hc.t.app (fun c hc => .inr (by simpa using hc))).app (ih b ht)
theorem clnT_pkB (n i : Nat) (p : Int) : ClnT (pkB n i p) := by
 unfold pkB
 refine ClnT.app ?_ ((ClnL.cons (by kernel_rfl) (clnL_itoa p)).t.app ?_)
 ·split
  ·have hall : picksN.all cln = true := by kernel_rfl
   exact fun c hc => .inl (List.all_eq_true.1 hall c hc)
  ·intro c hc; cases hc
 ·split
  ·exact fun c hc => .inr (by simpa using hc)
  ·intro c hc; cases hc
theorem clnT_pkF (n : Nat) (ps : List Int) : ∀ i, ClnT (pkF n i ps) := by
 induction ps with
 | nil => intro i c hc; cases hc
 | cons p t ih => intro i; exact (clnT_pkB n i p).app (ih (i + 1))
theorem clnT_fmt {s : Scr} {t : List UInt8} (h : fmtP s = .ok t) : ClnT t := by
 obtain ⟨_, a, ha, rfl, _⟩ := fmtP_ok h
 exact (clnT_ents _ a ha).app (clnT_pkF _ _ _)

theorem tl_append (a b : List Int) : tl (a ++ b) = tl a ++ tl b := by simp [tl]
theorem ent_len {e : Int × Req} {a : List UInt8} (h : entL e = some a) : 6 ≤ a.length := by
 unfold entL at h
 cases hs : showP e.2 with
 | none => rw [hs] at h; cases h
 | some t =>
  rw [hs, Option.bind_some] at h
  split at h
  ·cases h
   obtain ⟨ws, h1, rfl⟩ := showP_line hs
   obtain ⟨d, vs, _, _, rfl, h2⟩ := line_words h1
   have h3 := List.length_pos_iff.2 (itoa_ne e.1)
   have h4 : 3 ≤ (nameN d).length := by
    have hall : ∀ k ∈ [1, 2, 3, 4, 5, 6, 7, 8, 9, 10], 3 ≤ (nameN k).length := by decide
    exact hall d (by simp; omega)
   have h5 : (nameN d).length ≤ (jn (nameN d :: vs)).length := by
    cases vs with
    | nil => exact Nat.le_refl _
    | cons b t => simp [jn]
   simp only [List.length_append, List.length_cons, List.length_nil]
   omega
  ·cases h
/-- what lines say, and how long they are -/
theorem run_back (ls : List (List UInt8 × Bool)) : ∀ (st st' : Scr) (k : Nat), runP ls st k = .ok st' →
  ∃ es ps a, st' = (st.1 ++ es, st.2 ++ ps) ∧ entsL es = some a ∧ (∀ p ∈ ps, inI p) ∧ a.length + ptot ps ≤ lsum ls ∧ 6 * es.length ≤ a.length := by
 induction ls with
 | nil => intro st st' k h; cases h; exact ⟨[], [], [], by simp, rfl, by simp, by simp [ptot, tl], by simp⟩
 | cons x t ih =>
  intro st st' k h
  rw [runP] at h
  cases hs : stP st x with
  | error c => rw [hs] at h; cases h
  | ok s2 =>
   rw [hs] at h
   obtain ⟨y, h2, hy, rfl, hb⟩ := stP_true hs
   obtain ⟨es, ps, a, h3, h4, h5, h6, h7⟩ := ih _ _ _ h
   have hx : lsum (x :: t) = x.1.length + 1 + lsum t := by simp [lsum]
   cases y with
   | inl l =>
    obtain ⟨k1, k2, k3⟩ := line_pk hy
    refine ⟨es, l ++ ps, a, by simp [h3, addP], h4, ?_, ?_, h7⟩
    ·intro p hp
     rcases List.mem_append.1 hp with hp | hp
     ·exact k2 p hp
     ·exact h5 p hp
    ·rw [hx, ptot, tl_append, List.length_append]
     rw [jn_tl] at k3
     have := congrArg List.length k3
     rw [List.length_append] at this
     unfold ptot at h6
     omega
   | inr e =>
    have he := line_ent hy
    refine ⟨e :: es, ps, x.1 ++ [10] ++ a, by simp [h3, addP], ?_, h5, ?_, ?_⟩
    ·rw [entsL, he, Option.bind_some, h4]; rfl
    ·rw [hx]; simp only [List.length_append, List.length_cons, List.length_nil]; omega
    ·have := ent_len he
     simp only [List.length_append, List.length_cons, List.length_nil] at this ⊢
     omega
theorem pkF_len (n : Nat) (ps : List Int) : ∀ i, (pkF n i ps).length + (5 * ((i + 15) / 16) + i / 16) ≤ ptot ps + (5 * ((i + ps.length + 15) / 16) + (i + ps.length) / 16) + (if i < n ∧ n ≤ i + ps.length then 1 else 0) := by
 induction ps with
 | nil => intro i; simp [pkF, ptot, tl]
 | cons p t ih =>
  intro i
  have h := ih (i + 1)
  rw [pkF, pkB]
  simp only [ptot, tl, List.flatMap_cons, List.length_append, List.length_cons] at h ⊢
  have e1 : (if i % 16 = 0 then picksN else []).length = if i % 16 = 0 then 5 else 0 := by split <;> rfl
  have e2 : (if i % 16 = 15 ∨ i + 1 = n then [10] else ([] : List UInt8)).length = if i % 16 = 15 ∨ i + 1 = n then 1 else 0 := by split <;> rfl
  rw [e1, e2]
  have e3 : i + 1 + t.length = i + (t.length + 1) := by omega
  rw [e3] at h
  generalize (List.flatMap (fun p => 32 :: Lib.itoa p) t).length = A at h ⊢
  generalize (pkF n (i + 1) t).length = B at h ⊢
  by_cases c1 : i % 16 = 0
  ·rw [if_pos c1]
   by_cases c2 : i + 1 = n
   ·rw [if_pos (.inr c2), if_pos (by omega)]
    rw [if_neg (by omega)] at h
    omega
   ·rw [if_neg (by omega)]
    by_cases c3 : i < n ∧ n ≤ i + (t.length + 1)
    ·rw [if_pos c3]
     rw [if_pos (by omega)] at h
     omega
    ·rw [if_neg c3]
     rw [if_neg (by omega)] at h
     omega
  ·rw [if_neg c1]
   by_cases c2 : i + 1 = n
   ·rw [if_pos (.inr c2), if_pos (by omega)]
    rw [if_neg (by omega)] at h
    omega
   ·by_cases c4 : i % 16 = 15
    ·rw [if_pos (.inl c4)]
     by_cases c3 : i < n ∧ n ≤ i + (t.length + 1)
     ·rw [if_pos c3]
      rw [if_pos (by omega)] at h
      omega
     ·rw [if_neg c3]
      rw [if_neg (by omega)] at h
      omega
    ·rw [if_neg (by omega)]
     by_cases c3 : i < n ∧ n ≤ i + (t.length + 1)
     ·rw [if_pos c3]
      rw [if_pos (by omega)] at h
      omega
     ·rw [if_neg c3]
      rw [if_neg (by omega)] at h
      omega
/-- what is read can be written, if it is not too long -/
theorem parse_again {text : List UInt8} {s : Scr} (h : parseP text = .ok s) : (∀ p ∈ s.2, inI p) ∧ ((∃ t, fmtP s = .ok t) ∨ (fmtP s = .error 3 ∧ 100000 < text.length)) := by
 unfold parseP at h
 split at h
 ·cases h
 ·rename_i hl
  have hb := run_big _ _ _ _ h rfl
  obtain ⟨es, ps, a, h1, h2, h3, h4, h5⟩ := run_back _ _ _ _ h
  simp only [List.nil_append] at h1
  subst h1
  refine ⟨h3, ?_⟩
  have h6 := lsum_lns text
  have h7 := pkF_len ps.length ps 0
  have h8 : ps.length ≤ 65536 := (big_le (s := (es, ps)) (by rw [hb]; simp)).2
  unfold fmtP
  rw [hb, if_neg (by simp)]
  simp only [h2]
  by_cases hL : 262144 < (a ++ pkF ps.length 0 ps).length
  ·rw [if_pos hL]
   refine .inr ⟨rfl, ?_⟩
   rw [List.length_append] at hL
   simp only [Nat.zero_add] at h7
   have : (if 0 < ps.length ∧ ps.length ≤ ps.length then 1 else 0) ≤ 1 := by split <;> omega
   omega
  ·rw [if_neg hL]
   exact .inl ⟨_, rfl⟩

def plusS (q st : Scr) : Scr := (q.1 ++ st.1, q.2 ++ st.2)
theorem addP_plus (q st : Scr) (y : List Int ⊕ (Int × Req)) : addP (plusS q st) y = plusS q (addP st y) := by
 cases y <;> simp [addP, plusS]
theorem runP_shift (q : Scr) (k : Nat) (ls : List (List UInt8 × Bool)) : ∀ (st : Scr) (j : Nat), 6 * (q.1.length + st.1.length) + lsum ls ≤ 24576 → 2 * (q.2.length + st.2.length) + lsum ls ≤ 131072 →
  runP ls (plusS q st) (k + j) = match runP ls st j with | .ok r => .ok (plusS q r) | .error (m, c) => .error (k + m, c) := by
 induction ls with
 | nil => intro st j _ _; rfl
 | cons x t ih =>
  intro st j h1 h2
  have hx : lsum (x :: t) = x.1.length + 1 + lsum t := by simp [lsum]
  rw [hx] at h1 h2
  rw [runP, runP, stP, stP]
  cases hl : lnP x with
  | none => rfl
  | some y =>
   simp only
   have hx2 : x.2 = true := by
    unfold lnP at hl
    split at hl
    ·assumption
    ·cases hl
   have hy : lnP (x.1, true) = some y := by rw [← hl, ← hx2]
   have hbd : 6 * (q.1.length + (addP st y).1.length) + lsum t ≤ 24576 ∧ 2 * (q.2.length + (addP st y).2.length) + lsum t ≤ 131072 := by
    cases y with
    | inl l =>
     obtain ⟨k1, k2, k3⟩ := line_pk hy
     rw [jn_tl] at k3
     have h3 := congrArg List.length k3
     have h4 := ptot_ge l
     unfold ptot at h4
     rw [List.length_append] at h3
     simp only [addP, List.length_append]
     omega
    | inr e =>
     have h3 := ent_len (line_ent hy)
     simp only [List.length_append, List.length_cons, List.length_nil] at h3
     simp only [addP, List.length_append, List.length_cons, List.length_nil]
     omega
   have b1 : bigP (addP st y) = false := bigP_no (by omega) (by omega)
   have b2 : bigP (addP (plusS q st) y) = false := by
    rw [addP_plus]
    exact bigP_no (by simp only [plusS, List.length_append]; omega) (by simp only [plusS, List.length_append]; omega)
   rw [b1, b2]
   simp only [Bool.false_eq_true, if_false]
   rw [addP_plus, Nat.add_assoc]
   exact ih (addP st y) (j + 1) hbd.1 hbd.2
/-- a text without end, or with a line feed at its end -/
def Ends (a : List UInt8) : Prop := a = [] ∨ ∃ b, a = b ++ [10]
theorem lns_app {a : List UInt8} (h : Ends a) (b : List UInt8) : lns (a ++ b) = lns a ++ lns b := by
 rcases h with rfl | ⟨c, rfl⟩
 ·rfl
 ·exact lns_append c b
theorem lns_count {a : List UInt8} (h : Ends a) : (lns a).length = a.count 10 := by
 rcases h with rfl | ⟨c, rfl⟩
 ·rfl
 ·exact lnsA_count c []
theorem parts_err {a b : List UInt8} (h : Ends a) (hl : (a ++ b).length ≤ 262144) {z : Nat × Int} (hp : parseP a = .error z) : parseP (a ++ b) = .error z := by
 unfold parseP at hp ⊢
 rw [List.length_append] at hl
 rw [if_neg (by omega)] at hp
 rw [if_neg (by rw [List.length_append]; omega), lns_app h]
 exact runP_err _ _ _ _ _ hp
theorem parts_ok {a b : List UInt8} (h : Ends a) (ha : a.length ≤ 10001) (hb : b.length ≤ 10000) {x : Scr} (hp : parseP a = .ok x) :
  parseP (a ++ b) = match parseP b with | .ok y => .ok (plusS x y) | .error (m, c) => .error (a.count 10 + m, c) := by
 unfold parseP at hp ⊢
 rw [if_neg (by omega)] at hp
 rw [if_neg (by rw [List.length_append]; omega), if_neg (by omega), lns_app h, runP_ok _ _ _ _ _ hp, Nat.zero_add, lns_count h]
 obtain ⟨es, ps, a', h1, h2, h3, h4, h5⟩ := run_back _ _ _ _ hp
 simp only [List.nil_append] at h1
 subst h1
 have h6 := lsum_lns a
 have h7 := lsum_lns b
 have h8 := ptot_ge ps
 have := runP_shift (es, ps) (a.count 10) (lns b) ([], []) 0 (by simp; omega) (by simp; omega)
 simpa [plusS] using this
end Go.Proofs.YtkbedajbbakihaaGreatDoor
