/-
 Texts of this proof, put together (Fp): each part's first words say what it holds. Conditions: as each part says.
-/
import Derived.Test.YtkbedajbbakihaaGreatDoorQb2
/-
 Plain: the bytes of texts; lines are canonical: what is read off a line is written as that line. Conditions: none.
-/
namespace Go.Proofs.YtkbedajbbakihaaGreatDoor
open Go.Lib
set_option linter.unusedSimpArgs false
set_option linter.unusedVariables false

/-! ### the bytes of texts -/
def cln (c : UInt8) : Bool := itsf c || c == 32 || c == 45 || c == 37
/-- every byte is one of the texts' -/
def ClnL (l : List UInt8) : Prop := ∀ c ∈ l, cln c = true
theorem ClnL.no {l : List UInt8} (h : ClnL l) : (10 : UInt8) ∉ l := fun hm => by
 have h1 := h _ hm
 have h2 : cln 10 = false := by kernel_rfl
 rw [h2] at h1
 cases h1
theorem ClnL.app {a b : List UInt8} (h : ClnL a) (k : ClnL b) : ClnL (a ++ b) := fun c hc => (List.mem_append.1 hc).elim (h c) (k c)
theorem ClnL.cons {c : UInt8} {b : List UInt8} (h : cln c = true) (k : ClnL b) : ClnL (c :: b) := fun d hd => (List.mem_cons.1 hd).elim (fun e => by rw [e]; exact h) (k d)
theorem ClnL.nil : ClnL [] := fun c hc => by cases hc
theorem clnL_dec (u : Nat) : ClnL (Lib.decDigits u) := fun c hc => by
 obtain ⟨h1, h2⟩ := decDigits_in u c hc
 simp [cln, itsf, h1, h2]
theorem clnL_itoa (v : Int) : ClnL (Lib.itoa v) := by
 rcases int_cases v with ⟨n, rfl⟩ | ⟨n, h, rfl⟩
 ·rw [itoa_pos]; exact clnL_dec n
 ·rw [itoa_neg n h]; exact ClnL.cons (by kernel_rfl) (clnL_dec n)
theorem clnL_wordB (c : UInt8) : ClnL (wordB c) := by
 have hall : ((List.range 256).all fun k => (wordB (UInt8.ofNat k)).all cln) = true := by kernel_rfl
 have h1 := List.all_eq_true.1 hall c.toNat (List.mem_range.2 c.toNat_lt)
 rw [UInt8.ofNat_toNat] at h1
 exact fun d hd => List.all_eq_true.1 h1 d hd
theorem clnL_word (l : List UInt8) : ClnL (word l) := by
 unfold word
 split
 ·exact ClnL.cons (by kernel_rfl) ClnL.nil
 ·intro c hc
  obtain ⟨d, _, hd⟩ := List.mem_flatMap.1 hc
  exact clnL_wordB d c hd
theorem clnL_letters (r : Int) : ClnL (lettersR r) := by
 unfold lettersR
 refine ClnL.app ?_ (ClnL.app ?_ ?_) <;> (split <;> first | exact ClnL.nil | exact ClnL.cons (by kernel_rfl) ClnL.nil)
theorem clnL_showH (t g : Nat) (r : Int) : ClnL (showH t g r) := by
 unfold showH
 exact (clnL_dec t).app (ClnL.cons (by kernel_rfl) ((clnL_dec g).app (ClnL.cons (by kernel_rfl) (clnL_letters r))))
theorem clnL_shF (f : Fld) (r : Req) (w : List UInt8) (h : shF f r = some w) : ClnL w := by
 cases f with
 | hdl =>
  simp only [shF] at h
  split at h
  ·cases h; exact clnL_showH _ _ _
  ·cases h
 | key => cases h; exact clnL_word _
 | val => cases h; exact clnL_word _
 | old => cases h; exact clnL_word _
 | lim => cases h; exact clnL_itoa _
 | ten =>
  simp only [shF] at h
  split at h
  ·cases h; exact clnL_itoa _
  ·cases h
 | qk => cases h; exact clnL_dec _
 | qb => cases h; exact clnL_dec _
 | rts =>
  simp only [shF] at h
  split at h
  ·cases h; exact clnL_letters _
  ·cases h
theorem clnL_shFs (r : Req) (fs : List Fld) : ∀ ws, shFs r fs = some ws → ∀ w ∈ ws, ClnL w := by
 induction fs with
 | nil => intro ws h; cases h; simp
 | cons f fs ih =>
  intro ws h
  rw [shFs] at h
  cases hf : shF f r with
  | none => rw [hf] at h; cases h
  | some w =>
   rw [hf, Option.bind_some] at h
   cases hfs : shFs r fs with
   | none => rw [hfs] at h; cases h
   | some vs =>
    rw [hfs] at h
    cases h
    intro x hx
    rcases List.mem_cons.1 hx with rfl | hx
    ·exact clnL_shF f r x hf
    ·exact ih vs hfs x hx
theorem clnL_name (n : Nat) (h : 1 ≤ n ∧ n ≤ 10) : ClnL (nameN n) := by
 have hall : ∀ k ∈ [1, 2, 3, 4, 5, 6, 7, 8, 9, 10], (nameN k).all cln = true := by decide +kernel
 exact fun c hc => List.all_eq_true.1 (hall n (by simp; omega)) c hc
theorem clnL_jn (ws : List (List UInt8)) (h : ∀ w ∈ ws, ClnL w) : ClnL (jn ws) := by
 induction ws with
 | nil => exact ClnL.nil
 | cons a t ih =>
  cases t with
  | nil => exact h a List.mem_cons_self
  | cons b t => exact (h a List.mem_cons_self).app (ClnL.cons (by kernel_rfl) (ih fun w hw => h w (List.mem_cons_of_mem _ hw)))
theorem line_words {r : Req} {ws : List (List UInt8)} (h : lineP r = some ws) : ∃ d vs, deedN r.deed = some d ∧ shFs r (fldsN d) = some vs ∧ ws = nameN d :: vs ∧ 1 ≤ d ∧ d ≤ 10 := by
 unfold lineP at h
 cases hd : deedN r.deed with
 | none => rw [hd] at h; cases h
 | some d =>
  rw [hd, Option.bind_some] at h
  cases hf : shFs r (fldsN d) with
  | none => rw [hf] at h; cases h
  | some vs =>
   rw [hf] at h
   cases h
   exact ⟨d, vs, rfl, hf, rfl, (deedN_of hd).2.1, (deedN_of hd).2.2⟩
theorem clnL_line {r : Req} {ws : List (List UInt8)} (h : lineP r = some ws) : ClnL (jn ws) := by
 obtain ⟨d, vs, _, hf, rfl, h1⟩ := line_words h
 refine clnL_jn _ fun w hw => ?_
 rcases List.mem_cons.1 hw with rfl | hw
 ·exact clnL_name d h1
 ·exact clnL_shFs r _ vs hf w hw
theorem showP_line {r : Req} {t : List UInt8} (h : showP r = some t) : ∃ ws, lineP r = some ws ∧ t = jn ws := by
 unfold showP at h
 split at h
 ·rename_i ws hw
  split at h
  ·cases h; exact ⟨ws, hw, rfl⟩
  ·cases h
 ·cases h
theorem clnL_showP {r : Req} {t : List UInt8} (h : showP r = some t) : ClnL t := by
 obtain ⟨ws, h1, rfl⟩ := showP_line h
 exact clnL_line h1

/-! ### lines are canonical -/
theorem word_of_unword {w x : List UInt8} (h : unword w = some x) : word x = w := by
 unfold unword at h
 split at h
 ·rename_i h45
  cases h
  rw [h45]; rfl
 ·split at h
  ·split at h
   ·rename_i hs
    cases h
    exact hs.2
   ·cases h
  ·cases h
theorem step_back (f : Fld) (w : List UInt8) (r s : Req) (h : stepF f w r = some s) : shF f s = some w ∧ s = setF f s r := by
 cases f with
 | hdl =>
  simp only [stepF] at h
  cases hx : rdH w with
  | none => rw [hx] at h; cases h
  | some x =>
   rw [hx] at h
   cases h
   obtain ⟨t, g, h1, h2, h3, h4, h5⟩ := (rdH_iff w x).1 hx
   refine ⟨?_, rfl⟩
   simp only [shF, h1, h2]
   rw [if_pos h3, h5]
   rfl
 | key =>
  simp only [stepF] at h
  cases hx : unword w with
  | none => rw [hx] at h; cases h
  | some x => rw [hx] at h; cases h; exact ⟨by simp only [shF]; rw [word_of_unword hx], rfl⟩
 | val =>
  simp only [stepF] at h
  cases hx : unword w with
  | none => rw [hx] at h; cases h
  | some x => rw [hx] at h; cases h; exact ⟨by simp only [shF]; rw [word_of_unword hx], rfl⟩
 | old =>
  simp only [stepF] at h
  cases hx : unword w with
  | none => rw [hx] at h; cases h
  | some x => rw [hx] at h; cases h; exact ⟨by simp only [shF]; rw [word_of_unword hx], rfl⟩
 | lim =>
  simp only [stepF] at h
  cases hx : num w with
  | none => rw [hx] at h; cases h
  | some x => rw [hx] at h; cases h; exact ⟨by simp only [shF]; rw [((num_iff w x).1 hx).2], rfl⟩
 | ten =>
  simp only [stepF] at h
  cases hx : num w with
  | none => rw [hx] at h; cases h
  | some x =>
   rw [hx] at h; cases h
   obtain ⟨k1, k2⟩ := (num_iff w x).1 hx
   exact ⟨by simp only [shF]; rw [if_pos k1, k2], rfl⟩
 | qk =>
  simp only [stepF] at h
  cases hx : lrg w with
  | none => rw [hx] at h; cases h
  | some x => rw [hx] at h; cases h; exact ⟨by simp only [shF, Int.toNat_natCast]; rw [((lrg_iff w x).1 hx).2], rfl⟩
 | qb =>
  simp only [stepF] at h
  cases hx : lrg w with
  | none => rw [hx] at h; cases h
  | some x => rw [hx] at h; cases h; exact ⟨by simp only [shF, Int.toNat_natCast]; rw [((lrg_iff w x).1 hx).2], rfl⟩
 | rts =>
  simp only [stepF] at h
  cases hx : rdH (49 :: 46 :: 49 :: 46 :: w) with
  | none => rw [hx] at h; cases h
  | some x =>
   rw [hx] at h
   cases h
   obtain ⟨t, g, h1, h2, h3, h4, h5⟩ := (rdH_iff _ x).1 hx
   refine ⟨?_, rfl⟩
   have h6 := (okH_iff _ _ _).1 h3
   have e : lettersR x.2.2 = w := by
    have h7 : [49] ++ 46 :: ([49] ++ 46 :: w) = Lib.decDigits t ++ (46 :: (Lib.decDigits g ++ (46 :: lettersR x.2.2))) := h5
    exact (parts_inj (by decide) (by decide) (decDigits_no t 46 (by decide)) (decDigits_no g 46 (by decide)) h7).2.2.symm
   simp only [shF]
   rw [if_pos ((okH_iff _ _ _).2 ⟨by omega, by omega, h6.2.2⟩), e]
theorem sh_keep (f g : Fld) (h : f ≠ g) (r s : Req) : shF f (setF g s r) = shF f r := by
 cases f <;> cases g <;> first | rfl | exact absurd rfl h
theorem fold_keep (f : Fld) (fs : List Fld) : ∀ (ws : List (List UInt8)) (r s : Req), foldF fs ws r = some s → f ∉ fs → shF f s = shF f r := by
 induction fs with
 | nil =>
  intro ws r s h _
  cases ws with
  | nil => cases h; rfl
  | cons w ws => cases h
 | cons g fs ih =>
  intro ws r s h hf
  cases ws with
  | nil => cases h
  | cons w ws =>
   rw [foldF] at h
   cases hs : stepF g w r with
   | none => rw [hs] at h; cases h
   | some q =>
    rw [hs, Option.bind_some] at h
    rw [ih ws q s h (fun e => hf (List.mem_cons_of_mem _ e)), (step_back g w r q hs).2]
    exact sh_keep f g (fun e => hf (by rw [e]; exact List.mem_cons_self)) r q
theorem step_deed (g : Fld) (w : List UInt8) (r q : Req) (h : stepF g w r = some q) : q.deed = r.deed := by
 rw [(step_back g w r q h).2]
 cases g <;> rfl
theorem fold_back (fs : List Fld) : ∀ (ws : List (List UInt8)) (r s : Req), fs.Nodup → foldF fs ws r = some s → shFs s fs = some ws ∧ s.deed = r.deed := by
 induction fs with
 | nil =>
  intro ws r s _ h
  cases ws with
  | nil => cases h; exact ⟨rfl, rfl⟩
  | cons w ws => cases h
 | cons g fs ih =>
  intro ws r s hn h
  cases ws with
  | nil => cases h
  | cons w ws =>
   rw [foldF] at h
   cases hs : stepF g w r with
   | none => rw [hs] at h; cases h
   | some q =>
    rw [hs, Option.bind_some] at h
    obtain ⟨h1, h2⟩ := ih ws q s (List.nodup_cons.1 hn).2 h
    refine ⟨?_, h2.trans (step_deed g w r q hs)⟩
    rw [shFs, fold_keep g fs ws q s h (List.nodup_cons.1 hn).1, (step_back g w r q hs).1, Option.bind_some, h1]
    rfl
deriving instance DecidableEq for Fld
theorem flds_nodup (n : Nat) (h : 1 ≤ n ∧ n ≤ 10) : (fldsN n).Nodup := by
 rcases ten_cases h with rfl | rfl | rfl | rfl | rfl | rfl | rfl | rfl | rfl | rfl <;> decide
/-- what is read off words is written as those words -/
theorem line_of_read {ws : List (List UInt8)} {r : Req} (h : readR ws = some r) : lineP r = some ws := by
 cases ws with
 | nil => cases h
 | cons w ws =>
  rw [readR] at h
  cases hd : deedW w with
  | none => rw [hd] at h; cases h
  | some d =>
   rw [hd, Option.bind_some] at h
   obtain ⟨hd1, rfl⟩ := deedW_of hd
   obtain ⟨h1, h2⟩ := fold_back _ ws _ r (flds_nodup d hd1) h
   have hr : r.deed = (d : Int) := h2
   have hn : deedN r.deed = some d := by
    unfold deedN
    rw [hr, if_pos (by omega)]
    simp
   unfold lineP
   rw [hn, Option.bind_some, h1]
   rfl
theorem line_no {ws : List (List UInt8)} {r : Req} (h : lineP r = some ws) : ws ≠ [] ∧ ∀ w ∈ ws, (32 : UInt8) ∉ w := by
 obtain ⟨d, vs, _, hf, rfl, h1⟩ := line_words h
 refine ⟨by simp, fun w hw => ?_⟩
 rcases List.mem_cons.1 hw with rfl | hw
 ·exact nameN_no d h1
 ·exact shFs_no r _ vs hf w hw
theorem jn_spl (l : List UInt8) : jn (spl l) = l := by
 induction l with
 | nil => rfl
 | cons c r ih =>
  obtain ⟨a, t, e⟩ := spl_ex r
  rw [e] at ih
  by_cases h : c = 32
  ·subst h
   rw [spl_sp, e, jn, ih]
   rfl
  ·rw [spl_ch c h r a t e]
   cases t with
   | nil => rw [jn] at ih ⊢; rw [ih]
   | cons b t => rw [jn] at ih ⊢; rw [List.cons_append, ih]
theorem showP_of_read {ws : List (List UInt8)} {r : Req} (h : readR ws = some r) : showP r = some (jn ws) := by
 have h1 := line_of_read h
 obtain ⟨h2, h3⟩ := line_no h1
 unfold showP
 rw [h1]
 simp only
 rw [spl_jn ws h2 h3, if_pos h]
/-- a text is a request's text just if the request is read off it -/
theorem showP_iff (r : Req) (t : List UInt8) : showP r = some t ↔ readR (spl t) = some r := by
 constructor
 ·exact showP_back
 ·intro h
  rw [showP_of_read h, jn_spl]
end Go.Proofs.YtkbedajbbakihaaGreatDoor
