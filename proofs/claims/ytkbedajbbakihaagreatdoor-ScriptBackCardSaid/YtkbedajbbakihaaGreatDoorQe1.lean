/-
 Texts of this proof, put together (Pq, FqZ): each part's first words say what it holds. Conditions: as each part says.
-/
import Derived.Test.YtkbedajbbakihaaGreatDoorQe
import Derived.Test.YtkbedajbbakihaaGreatDoorQb3
/-
 What Parse answers, plainly; its state in memory. Conditions: none.
-/
namespace Go.Proofs.YtkbedajbbakihaaGreatDoor
open Go.RowKit Go.Sort Go.Lib
set_option linter.unusedSimpArgs false
set_option linter.unusedVariables false

/-- entries and picks -/
abbrev Scr := List (Int × Req) × List Int
def addP (st : Scr) : List Int ⊕ (Int × Req) → Scr
 | .inl l => (st.1, st.2 ++ l)
 | .inr e => (st.1 ++ [e], st.2)
def bigP (st : Scr) : Bool := decide (4096 < st.1.length) || decide (65536 < st.2.length)
/-- one more line -/
noncomputable def stP (st : Scr) (x : List UInt8 × Bool) : Except Int Scr :=
 match lnP x with
 | none => .error 7
 | some y => if bigP (addP st y) then .error 3 else .ok (addP st y)
/-- all lines; the first wrong one's index and error -/
noncomputable def runP : List (List UInt8 × Bool) → Scr → Nat → Except (Nat × Int) Scr
 | [], st, _ => .ok st
 | x :: t, st, n => match stP st x with
  | .error c => .error (n, c)
  | .ok st' => runP t st' (n + 1)
theorem runP_ok (a b : List (List UInt8 × Bool)) : ∀ (st st' : Scr) (n : Nat), runP a st n = .ok st' → runP (a ++ b) st n = runP b st' (n + a.length) := by
 induction a with
 | nil => intro st st' n h; cases h; simp
 | cons x t ih =>
  intro st st' n h
  rw [List.cons_append, runP]
  rw [runP] at h
  cases hs : stP st x with
  | error c => rw [hs] at h; cases h
  | ok s2 =>
   rw [hs] at h
   have h2 : runP t s2 (n + 1) = .ok st' := h
   show runP (t ++ b) s2 (n + 1) = _
   rw [ih _ _ _ h2, List.length_cons]
   congr 1
   omega
theorem runP_err (a b : List (List UInt8 × Bool)) : ∀ (st : Scr) (n : Nat) (z : Nat × Int), runP a st n = .error z → runP (a ++ b) st n = .error z := by
 induction a with
 | nil => intro st n z h; cases h
 | cons x t ih =>
  intro st n z h
  rw [List.cons_append, runP]
  rw [runP] at h
  cases hs : stP st x with
  | error c => rw [hs] at h; exact h
  | ok s2 =>
   rw [hs] at h
   exact ih _ _ _ h
/-- what a text says -/
noncomputable def parseP (text : List UInt8) : Except (Nat × Int) Scr := if 262144 < text.length then .error (0, 3) else runP (lns text) ([], []) 0
theorem runP_next {pre suf : List (List UInt8 × Bool)} {x : List UInt8 × Bool} {st st' : Scr} (h : runP pre ([], []) 0 = .ok st) (hs : stP st x = .ok st') : runP (pre ++ [x]) ([], []) 0 = .ok st' := by
 rw [runP_ok pre [x] _ _ _ h, runP, hs]
 rfl
theorem runP_stop {pre suf : List (List UInt8 × Bool)} {x : List UInt8 × Bool} {st : Scr} {c : Int} (h : runP pre ([], []) 0 = .ok st) (hs : stP st x = .error c) : runP (pre ++ x :: suf) ([], []) 0 = .error (pre.length, c) := by
 rw [runP_ok pre (x :: suf) _ _ _ h, runP, hs, Nat.zero_add]
/-- entries as cells -/
def entC (es : List (Int × Req)) : List Value := es.flatMap fun e => .int .i64 e.1 :: (reqA e.2).toList
theorem entC_snoc (es : List (Int × Req)) (e : Int × Req) : entC (es ++ [e]) = entC es ++ (.int .i64 e.1 :: (reqA e.2).toList) := by simp [entC]
/-- how Parse ends -/
def PEnd (res : Except (Nat × Int) Scr) (w : World) (e : Ending) (w' : World) : Prop := Later w w' ∧ match res with
 | .error (n, c) => e = .returned (.tuple #[.agg #[.slice none 0 0, .slice none 0 0], .int .i64 n, .int .i64 c])
 | .ok st => ∃ ev pv, e = .returned (.tuple #[.agg #[ev, pv], .int .i64 0, .int .i64 0]) ∧ w'.ownsRow w.heap.size 59 13 ev st.1.length (entC st.1) ∧ w'.ownsRow w.heap.size 3 1 pv st.2.length (ints st.2)
/-- the blocks of Parse between two lines -/
structure PS (wS : World) (D : Nat) (pre : List (List UInt8 × Bool)) (W : World) : Prop where
 later : Later wS W
 big : D ≤ W.heap.size
 r0 : W.heap[wS.heap.size]? = some (.cells #[.slice none 0 0, .slice none 0 0] 45 (0, 0))
 r1 : W.heap[wS.heap.size + 1]? = some (.cells #[.int .i64 0] 3 (0, 0))
 r2 : W.heap[wS.heap.size + 2]? = some (.cells #[.int .i64 0] 24 (0, 0))
 nb : W.heap[wS.heap.size + 4]? = some (.cells #[.int .i64 (pre.length : Int)] 3 (0, 0))
 st : ∃ st ev pv, runP pre ([], []) 0 = .ok st ∧ W.heap[wS.heap.size + 3]? = some (.cells #[ev, pv] 45 (0, 0)) ∧ W.ownsRow D 59 13 ev st.1.length (entC st.1) ∧ W.ownsRow D 3 1 pv st.2.length (ints st.2)
theorem later_row {base n size : Nat} {e : TypeId} {w w' : World} {v : Value} {xs : List Value} (h : w.ownsRow base e size v n xs) (row : Option Nat) (hg : w.grownBy w' row) (hr : ∀ r, row = some r → ∃ o : Obj, w.heap[r]? = some o ∧ o.isCells = false) : w'.ownsRow base e size v n xs := by
 refine h.kept (row := row) hg ?_
 cases hrow : row with
 | none => cases v.ownBlock <;> simp
 | some r =>
  refine .inr (fun e => ?_)
  obtain ⟨o, ho, hc⟩ := hr r hrow
  rcases h.2 with ⟨hv, _⟩ | ⟨g, cap, cur, e1, e2, e3, _⟩
  ·rw [hv] at e; cases e
  ·rw [e1] at e
   injection e with e
   subst e
   rw [e3] at ho
   cases ho
   cases hc
/-- the state abides what an iterator and a loop's record do -/
theorem PS.grown {wS : World} {D : Nat} {pre : List (List UInt8 × Bool)} {W W' : World} (h : PS wS D pre W) (hD : wS.heap.size + 6 ≤ D) (row : Option Nat) (hg : W.grownBy W' row)
  (hr : ∀ r, row = some r → D ≤ r ∧ ∃ o : Obj, W.heap[r]? = some o ∧ o.isCells = false) : PS wS D pre W' := by
 have hb := h.big
 have keep : ∀ k, k < D → W'.heap[k]? = W.heap[k]? := fun k hk => hg.block k (by omega) (fun e => by have := (hr k e.symm).1; omega)
 obtain ⟨st, ev, pv, h1, h2, h3, h4⟩ := h.st
 exact ⟨⟨hg.os.trans h.later.os, hg.tape.trans h.later.tape, hg.output.trans h.later.output, Nat.le_trans h.later.size hg.size, fun k hk => (keep k (by omega)).trans (h.later.block k hk)⟩,
  Nat.le_trans hb hg.size, (keep _ (by omega)).trans h.r0, (keep _ (by omega)).trans h.r1, (keep _ (by omega)).trans h.r2, (keep _ (by omega)).trans h.nb,
  st, ev, pv, h1, (keep _ (by omega)).trans h2, later_row h3 row hg (fun r e => (hr r e).2), later_row h4 row hg (fun r e => (hr r e).2)⟩
theorem PS.own {wS : World} {D : Nat} (hD : wS.heap.size + 6 ≤ D) : OwnFrom D (fun pre W => PS wS D pre W) := fun pre W W' row h hg hr => h.grown hD row hg hr
/-- .. and a store into another block of the call's -/
theorem PS.other {wS : World} {D : Nat} {pre : List (List UInt8 × Bool)} {W W' : World} (h : PS wS D pre W) (hD : wS.heap.size + 6 ≤ D) (T : Nat) (hT : wS.heap.size + 5 ≤ T) (hT2 : T < D) (hk : Only T W W') : PS wS D pre W' := by
 have hb := h.big
 have keep : ∀ k, k < D → k ≠ T → W'.heap[k]? = W.heap[k]? := fun k hk2 hne => hk.block k (by omega) hne
 obtain ⟨st, ev, pv, h1, h2, h3, h4⟩ := h.st
 exact ⟨hk.later h.later (by omega), Nat.le_trans hb hk.size, (keep _ (by omega) (by omega)).trans h.r0, (keep _ (by omega) (by omega)).trans h.r1, (keep _ (by omega) (by omega)).trans h.r2, (keep _ (by omega) (by omega)).trans h.nb,
  st, ev, pv, h1, (keep _ (by omega) (by omega)).trans h2,
  h3.kept (row := some T) ⟨hk.os, hk.tape, hk.output, hk.size, fun i hi hne => hk.block i hi (fun e => hne (by rw [e]))⟩ (.inr (fun e => by have := (h3.lt T e).1; omega)),
  ownsRow_only h4 hk hT2⟩
end Go.Proofs.YtkbedajbbakihaaGreatDoor

/-
 Plain: a script's text; it is read back; what is read can be written; texts one after the other. Conditions: none.
-/
namespace Go.Proofs.YtkbedajbbakihaaGreatDoor
open Go.Lib
set_option linter.unusedSimpArgs false
set_option linter.unusedVariables false

/-! ### a script's text -/
noncomputable def entL (e : Int × Req) : Option (List UInt8) :=
 (showP e.2).bind fun t => if 0 ≤ e.1 ∧ e.1 ≤ 999999999 then some (Lib.itoa e.1 ++ 32 :: t ++ [10]) else none
noncomputable def entsL : List (Int × Req) → Option (List UInt8)
 | [] => some []
 | e :: t => (entL e).bind fun a => (entsL t).map (a ++ ·)
def pkB (n i : Nat) (p : Int) : List UInt8 := (if i % 16 = 0 then picksN else []) ++ (32 :: Lib.itoa p ++ (if i % 16 = 15 ∨ i + 1 = n then [10] else []))
def pkF (n : Nat) : Nat → List Int → List UInt8
 | _, [] => []
 | i, p :: t => pkB n i p ++ pkF n (i + 1) t
noncomputable def fmtP (s : Scr) : Except Int (List UInt8) :=
 if bigP s then .error 3 else match entsL s.1 with
 | none => .error 4
 | some a => if 262144 < (a ++ pkF s.2.length 0 s.2).length then .error 3 else .ok (a ++ pkF s.2.length 0 s.2)
theorem entsL_append (a b : List (Int × Req)) : entsL (a ++ b) = (entsL a).bind fun x => (entsL b).map (x ++ ·) := by
 induction a with
 | nil => cases h : entsL b <;> simp [entsL, h]
 | cons e t ih =>
  rw [List.cons_append, entsL, entsL, ih]
  cases entL e with
  | none => rfl
  | some x =>
   simp only [Option.bind_some]
   cases entsL t with
   | none => rfl
   | some y =>
    simp only [Option.bind_some, Option.map_some]
    cases entsL b with
    | none => rfl
    | some z => simp
theorem pkF_append (n : Nat) (a b : List Int) : ∀ i, pkF n i (a ++ b) = pkF n i a ++ pkF n (i + a.length) b := by
 induction a with
 | nil => intro i; simp [pkF]
 | cons p t ih =>
  intro i
  rw [List.cons_append, pkF, pkF, ih, List.append_assoc, List.length_cons]
  congr 3
  omega

/-! ### its lines -/
theorem lns_line (l rest : List UInt8) (h : (10 : UInt8) ∉ l) : lns (l ++ 10 :: rest) = (l, true) :: lns rest := by
 have := lnsA_cut l rest h []
 simpa [lns] using this
theorem itoa_picks (v : Int) : Lib.itoa v ≠ picksN := by
 intro h
 have h1 : (112 : UInt8) ∈ Lib.itoa v := by rw [h]; simp [picksN]
 rcases int_cases v with ⟨n, rfl⟩ | ⟨n, hn, rfl⟩
 ·rw [itoa_pos] at h1
  have := (decDigits_in n _ h1).2
  revert this; decide
 ·rw [itoa_neg n hn] at h1
  rcases List.mem_cons.1 h1 with h2 | h2
  ·revert h2; decide
  ·have := (decDigits_in n _ h2).2
   revert this; decide
theorem ent_line {e : Int × Req} {a : List UInt8} (h : entL e = some a) : ∃ l, a = l ++ [10] ∧ ClnL l ∧ lnP (l, true) = some (.inr e) := by
 unfold entL at h
 cases hs : showP e.2 with
 | none => rw [hs] at h; cases h
 | some t =>
  rw [hs, Option.bind_some] at h
  split at h
  ·rename_i hn
   cases h
   refine ⟨Lib.itoa e.1 ++ 32 :: t, rfl, (clnL_itoa _).app (ClnL.cons (by kernel_rfl) (clnL_showP hs)), ?_⟩
   unfold lnP
   rw [if_pos rfl]
   show wsP (spl (Lib.itoa e.1 ++ 32 :: t)) = _
   rw [spl_app _ _ (itoa_no e.1 32 (by decide)), wsP, if_neg (itoa_picks e.1), num_itoa e.1 hn.1 hn.2, Option.bind_some, showP_back hs]
   rfl
  ·cases h
def inI (p : Int) : Prop := -9223372036854775808 ≤ p ∧ p ≤ 9223372036854775807
theorem pksL_map (ps : List Int) (h : ∀ p ∈ ps, inI p) : pksL (ps.map Lib.itoa) = some ps := by
 induction ps with
 | nil => rfl
 | cons p t ih =>
  rw [List.map_cons, pksL, pk_itoa p (h p List.mem_cons_self).1 (h p List.mem_cons_self).2, Option.bind_some, ih fun q hq => h q (List.mem_cons_of_mem _ hq)]
  rfl
theorem pksL_back (ws : List (List UInt8)) : ∀ ps, pksL ws = some ps → ws = ps.map Lib.itoa ∧ ∀ p ∈ ps, inI p := by
 induction ws with
 | nil => intro ps h; cases h; simp
 | cons w t ih =>
  intro ps h
  rw [pksL] at h
  cases hp : pk w with
  | none => rw [hp] at h; cases h
  | some v =>
   rw [hp, Option.bind_some] at h
   cases ht : pksL t with
   | none => rw [ht] at h; cases h
   | some qs =>
    rw [ht] at h
    cases h
    obtain ⟨h1, h2⟩ := ih qs ht
    obtain ⟨k1, k2⟩ := (pk_iff w v).1 hp
    refine ⟨by rw [List.map_cons, ← h1, ← k2], fun p hp => ?_⟩
    rcases List.mem_cons.1 hp with rfl | hp
    ·exact k1
    ·exact h2 p hp
theorem picks_no : (32 : UInt8) ∉ picksN := by decide
theorem pk_line (ps : List Int) (h0 : ps ≠ []) (h : ∀ p ∈ ps, inI p) : ClnL (jn (picksN :: ps.map Lib.itoa)) ∧ lnP (jn (picksN :: ps.map Lib.itoa), true) = some (.inl ps) := by
 refine ⟨clnL_jn _ fun w hw => ?_, ?_⟩
 ·rcases List.mem_cons.1 hw with rfl | hw
  ·have hall : picksN.all cln = true := by kernel_rfl
   exact fun c hc => List.all_eq_true.1 hall c hc
  ·obtain ⟨p, _, rfl⟩ := List.mem_map.1 hw
   exact clnL_itoa p
 ·unfold lnP
  rw [if_pos rfl]
  show wsP (spl (jn (picksN :: ps.map Lib.itoa))) = _
  rw [spl_jn _ (by simp) (fun w hw => ?_), wsP, if_pos rfl, pksR, if_neg (by simpa using h0), pksL_map ps h]
  ·rfl
  ·rcases List.mem_cons.1 hw with rfl | hw
   ·exact picks_no
   ·obtain ⟨p, _, rfl⟩ := List.mem_map.1 hw
    exact itoa_no p 32 (by decide)
theorem line_pk {l : List UInt8} {ps : List Int} (h : lnP (l, true) = some (.inl ps)) : ps ≠ [] ∧ (∀ p ∈ ps, inI p) ∧ l = jn (picksN :: ps.map Lib.itoa) := by
 unfold lnP at h
 rw [if_pos rfl] at h
 obtain ⟨w, t, hw⟩ := spl_ex l
 have hl := jn_spl l
 dsimp only at h
 rw [hw] at h hl
 rw [wsP] at h
 split at h
 ·rename_i hwp
  cases hp : pksR t with
  | none => rw [hp] at h; cases h
  | some y =>
   rw [hp] at h
   cases h
   unfold pksR at hp
   split at hp
   ·cases hp
   ·rename_i ht
    obtain ⟨h1, h2⟩ := pksL_back t ps hp
    refine ⟨?_, h2, ?_⟩
    ·rintro rfl; exact ht h1
    ·rw [← hl, hwp, h1]
 ·cases hn : num w with
  | none => rw [hn] at h; cases h
  | some n =>
   rw [hn, Option.bind_some] at h
   cases hr : readR t with
   | none => rw [hr] at h; cases h
   | some r => rw [hr] at h; cases h

/-! ### rows of picks -/
def tl (ps : List Int) : List UInt8 := ps.flatMap fun p => 32 :: Lib.itoa p
theorem jn_tl (a : List UInt8) (ps : List Int) : jn (a :: ps.map Lib.itoa) = a ++ tl ps := by
 induction ps generalizing a with
 | nil => simp [jn, tl]
 | cons p t ih =>
  rw [List.map_cons, jn, ih]
  simp [tl]
theorem pk_mid (n : Nat) : ∀ (k : Nat) (ps : List Int) (i : Nat), 1 ≤ k → k ≤ 15 → i % 16 = 16 - k → ps ≠ [] → i + ps.length = n → pkF n i ps = tl (ps.take k) ++ 10 :: pkF n (i + k) (ps.drop k) := by
 intro k
 induction k with
 | zero => intro ps i h; omega
 | succ k ih =>
  intro ps i _ h15 hi h0 hn
  cases ps with
  | nil => exact absurd rfl h0
  | cons p t =>
   rw [List.length_cons] at hn
   rw [pkF, pkB, if_neg (by omega), List.nil_append]
   cases t with
   | nil =>
    rw [if_pos (.inr (by simp at hn; omega))]
    simp [tl, pkF]
   | cons q t =>
    rw [List.length_cons] at hn
    by_cases hk : k = 0
    ·subst hk
     rw [if_pos (.inl (by omega))]
     simp [tl]
    ·rw [if_neg (by omega), ih (q :: t) (i + 1) (by omega) (by omega) (by omega) (by simp) (by simp; omega)]
     simp [tl]
     congr 1
     omega
theorem pk_row (n : Nat) (ps : List Int) (i : Nat) (hi : i % 16 = 0) (h0 : ps ≠ []) (hn : i + ps.length = n) : pkF n i ps = jn (picksN :: (ps.take 16).map Lib.itoa) ++ 10 :: pkF n (i + 16) (ps.drop 16) := by
 rw [jn_tl]
 cases ps with
 | nil => exact absurd rfl h0
 | cons p t =>
  rw [List.length_cons] at hn
  rw [pkF, pkB, if_pos hi]
  cases t with
  | nil =>
   rw [if_pos (.inr (by simp at hn; omega))]
   simp [tl, pkF]
  | cons q t =>
   rw [List.length_cons] at hn
   rw [if_neg (by omega), pk_mid n 15 (q :: t) (i + 1) (by omega) (by omega) (by omega) (by simp) (by simp; omega)]
   simp [tl]

/-! ### there and back -/
theorem runP_cons (l : List UInt8) (rest : List (List UInt8 × Bool)) (st : Scr) (k : Nat) (y : List Int ⊕ (Int × Req)) (h : lnP (l, true) = some y) (hb : bigP (addP st y) = false) : runP ((l, true) :: rest) st k = runP rest (addP st y) (k + 1) := by
 rw [runP, stP, h]
 simp only [hb]
 rfl
theorem bigP_no {st : Scr} (h1 : st.1.length ≤ 4096) (h2 : st.2.length ≤ 65536) : bigP st = false := by
 simp [bigP]; omega
theorem run_ents (rest : List UInt8) (es : List (Int × Req)) : ∀ (a : List UInt8) (st : Scr) (k : Nat), entsL es = some a → st.1.length + es.length ≤ 4096 → st.2.length ≤ 65536 → runP (lns (a ++ rest)) st k = runP (lns rest) (st.1 ++ es, st.2) (k + es.length) := by
 induction es with
 | nil => intro a st k h _ _; cases h; simp
 | cons e t ih =>
  intro a st k h h1 h2
  rw [entsL] at h
  cases he : entL e with
  | none => rw [he] at h; cases h
  | some x =>
   rw [he, Option.bind_some] at h
   cases ht : entsL t with
   | none => rw [ht] at h; cases h
   | some b =>
    rw [ht] at h
    cases h
    obtain ⟨l, rfl, hc, hl⟩ := ent_line he
    rw [List.length_cons] at h1
    rw [List.append_assoc, List.append_assoc, List.singleton_append, lns_line l _ hc.no, runP_cons l _ st k _ hl (bigP_no (by simp [addP]; omega) (by simpa [addP] using h2)), ih b _ _ ht (by simp [addP]; omega) (by simpa [addP] using h2)]
    simp [addP]
    congr 1
    omega
theorem run_pks (n : Nat) : ∀ (m : Nat) (ps : List Int) (i : Nat) (st : Scr) (k : Nat), ps.length ≤ m → i % 16 = 0 → i + ps.length = n → (∀ p ∈ ps, inI p) → st.1.length ≤ 4096 → st.2.length + ps.length ≤ 65536 → runP (lns (pkF n i ps)) st k = .ok (st.1, st.2 ++ ps) := by
 intro m
 induction m with
 | zero =>
  intro ps i st k hm _ _ _ _ _
  obtain rfl : ps = [] := List.length_eq_zero_iff.1 (by omega)
  simp [pkF, lns, lnsA, runP]
 | succ m ih =>
  intro ps i st k hm hi hn hp h1 h2
  by_cases h0 : ps = []
  ·subst h0
   simp [pkF, lns, lnsA, runP]
  ·have hl0 : 0 < ps.length := List.length_pos_iff.2 h0
   have ht : ps.take 16 ≠ [] := by
    intro h
    have := congrArg List.length h
    simp only [List.length_take, List.length_nil] at this
    omega
   obtain ⟨hc, hl⟩ := pk_line (ps.take 16) ht (fun p h => hp p (List.mem_of_mem_take h))
   rw [pk_row n ps i hi h0 hn, lns_line _ _ hc.no, runP_cons _ _ st k _ hl (bigP_no (by simpa [addP] using h1) (by simp [addP]; omega))]
   by_cases h16 : ps.length ≤ 16
   ·rw [List.drop_of_length_le h16, List.take_of_length_le h16]
    simp [pkF, lns, lnsA, runP, addP]
   ·rw [ih (ps.drop 16) (i + 16) _ (k + 1) (by simp; omega) (by omega) (by simp; omega) (fun p h => hp p (List.mem_of_mem_drop h)) (by simpa [addP] using h1) (by simp [addP]; omega)]
    simp [addP]
theorem big_le {s : Scr} (h : ¬ bigP s = true) : s.1.length ≤ 4096 ∧ s.2.length ≤ 65536 := by
 simp [bigP] at h
 exact h
theorem fmtP_ok {s : Scr} {t : List UInt8} (h : fmtP s = .ok t) : (s.1.length ≤ 4096 ∧ s.2.length ≤ 65536) ∧ ∃ a, entsL s.1 = some a ∧ t = a ++ pkF s.2.length 0 s.2 ∧ t.length ≤ 262144 := by
 unfold fmtP at h
 split at h
 ·cases h
 ·rename_i hb
  split at h
  ·cases h
  ·rename_i a ha
   split at h
   ·cases h
   ·rename_i hl
    cases h
    exact ⟨big_le hb, a, ha, rfl, by omega⟩
/-- what is written is read back -/
theorem parse_fmt {s : Scr} {t : List UInt8} (h : fmtP s = .ok t) (hp : ∀ p ∈ s.2, inI p) : parseP t = .ok s := by
 obtain ⟨⟨h1, h2⟩, a, ha, ht, hl⟩ := fmtP_ok h
 unfold parseP
 rw [if_neg (by omega), ht, run_ents _ s.1 a ([], []) 0 ha (by simpa using h1) (by simp), run_pks s.2.length s.2.length s.2 0 _ _ (Nat.le_refl _) rfl (by omega) hp (by simpa using h1) (by simpa using h2)]
 simp
/-- every byte is one of the texts' or a line feed -/
def ClnT (l : List UInt8) : Prop := ∀ c ∈ l, cln c = true ∨ c = 10
theorem ClnT.app {a b : List UInt8} (h : ClnT a) (k : ClnT b) : ClnT (a ++ b) := fun c hc => (List.mem_append.1 hc).elim (h c) (k c)
theorem ClnL.t {a : List UInt8} (h : ClnL a) : ClnT a := fun c hc => .inl (h c hc)
/-! ### what is read can be written -/
def ptot (ps : List Int) : Nat := (tl ps).length
def lsum (ls : List (List UInt8 × Bool)) : Nat := (ls.map fun x => x.1.length + 1).sum
theorem lsumA (l : List UInt8) : ∀ acc, lsum (lnsA acc l) ≤ acc.length + l.length + 1 := by
 induction l with
 | nil =>
  intro acc
  rw [lnsA]
  split <;> simp [lsum]
 | cons c r ih =>
  intro acc
  rw [lnsA]
  split
  ·have := ih []
   simp only [lsum, List.map_cons, List.sum_cons, List.length_cons, List.length_nil] at this ⊢
   omega
  ·have := ih (acc ++ [c])
   simp only [List.length_append, List.length_cons, List.length_nil] at this ⊢
   omega
theorem lsum_lns (l : List UInt8) : lsum (lns l) ≤ l.length + 1 := by
 have := lsumA l []
 simpa [lns] using this
theorem ptot_ge (ps : List Int) : 2 * ps.length ≤ ptot ps := by
 induction ps with
 | nil => simp
 | cons p t ih =>
  have h1 := List.length_pos_iff.2 (itoa_ne p)
  simp only [ptot, tl, List.flatMap_cons, List.length_append, List.length_cons] at ih ⊢
  omega
theorem stP_true {st st' : Scr} {x : List UInt8 × Bool} (h : stP st x = .ok st') : ∃ y, x.2 = true ∧ lnP (x.1, true) = some y ∧ st' = addP st y ∧ bigP (addP st y) = false := by
 unfold stP at h
 cases hl : lnP x with
 | none => rw [hl] at h; cases h
 | some y =>
  rw [hl] at h
  simp only at h
  split at h
  ·cases h
  ·rename_i hb
   cases h
   have h2 : x.2 = true := by
    unfold lnP at hl
    split at hl
    ·assumption
    ·cases hl
   refine ⟨y, h2, ?_, rfl, by simpa using hb⟩
   rw [← hl, ← h2]
theorem run_big (ls : List (List UInt8 × Bool)) : ∀ (st st' : Scr) (k : Nat), runP ls st k = .ok st' → bigP st = false → bigP st' = false := by
 induction ls with
 | nil => intro st st' k h hb; cases h; exact hb
 | cons x t ih =>
  intro st st' k h hb
  rw [runP] at h
  cases hs : stP st x with
  | error c => rw [hs] at h; cases h
  | ok s2 =>
   rw [hs] at h
   obtain ⟨y, h2, hy, rfl, hb2⟩ := stP_true hs
   exact ih _ _ _ h hb2
/-! ### texts one after the other -/
end Go.Proofs.YtkbedajbbakihaaGreatDoor
