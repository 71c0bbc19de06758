/-
 Texts of this proof, put together (Pb, Pg): each part's first words say what it holds. Conditions: as each part says.
-/
import Derived.Test.YtkbedajbbakihaaGreatDoorXg
/-
 Plain requests show, and short. Conditions: the numbers are within their types.
-/
namespace Go.Proofs.YtkbedajbbakihaaGreatDoor
open Go.RowKit
set_option linter.unusedSimpArgs false
set_option linter.unusedVariables false

theorem plain_fit (r : Req) (hr : r.fit) : (plainR r).fit := by
 have a1 := hr.hg; have a2 := hr.qk; have a3 := hr.qb; have a4 := hr.lim; have a5 := hr.hr; have a6 := hr.rts; have a7 := hr.ten; have a8 := hr.ht; have a9 := hr.deed; have a10 := hr.len
 have h : plD r = 1 ∨ plD r = 2 ∨ plD r = 3 ∨ plD r = 4 ∨ plD r = 5 ∨ plD r = 6 ∨ plD r = 7 ∨ plD r = 8 ∨ plD r = 9 ∨ plD r = 10 := by have := plD_range r; omega
 rcases h with h | h | h | h | h | h | h | h | h | h
 ·rw [plain_1 r h]
  refine ⟨⟨?_, ?_, ?_, ?_⟩, ?_, ?_, ?_, ?_, ?_, ?_⟩ <;> (try dsimp only [req0, plT, plG, plR, plM, List.length_nil]) <;> (try simp only [List.length_nil]) <;> omega
 ·rw [plain_2 r h]
  refine ⟨⟨?_, ?_, ?_, ?_⟩, ?_, ?_, ?_, ?_, ?_, ?_⟩ <;> (try dsimp only [req0, plT, plG, plR, plM, List.length_nil]) <;> (try simp only [List.length_nil]) <;> omega
 ·rw [plain_3 r h]
  refine ⟨⟨?_, ?_, ?_, ?_⟩, ?_, ?_, ?_, ?_, ?_, ?_⟩ <;> (try dsimp only [req0, plT, plG, plR, plM, List.length_nil]) <;> (try simp only [List.length_nil]) <;> omega
 ·rw [plain_4 r h]
  refine ⟨⟨?_, ?_, ?_, ?_⟩, ?_, ?_, ?_, ?_, ?_, ?_⟩ <;> (try dsimp only [req0, plT, plG, plR, plM, List.length_nil]) <;> (try simp only [List.length_nil]) <;> omega
 ·rw [plain_5 r h]
  refine ⟨⟨?_, ?_, ?_, ?_⟩, ?_, ?_, ?_, ?_, ?_, ?_⟩ <;> (try dsimp only [req0, plT, plG, plR, plM, List.length_nil]) <;> (try simp only [List.length_nil]) <;> omega
 ·rw [plain_6 r h]
  refine ⟨⟨?_, ?_, ?_, ?_⟩, ?_, ?_, ?_, ?_, ?_, ?_⟩ <;> (try dsimp only [req0, plT, plG, plR, plM, List.length_nil]) <;> (try simp only [List.length_nil]) <;> omega
 ·rw [plain_7 r h]
  refine ⟨⟨?_, ?_, ?_, ?_⟩, ?_, ?_, ?_, ?_, ?_, ?_⟩ <;> (try dsimp only [req0, plT, plG, plR, plM, List.length_nil]) <;> (try simp only [List.length_nil]) <;> omega
 ·rw [plain_8 r h]
  refine ⟨⟨?_, ?_, ?_, ?_⟩, ?_, ?_, ?_, ?_, ?_, ?_⟩ <;> (try dsimp only [req0, plT, plG, plR, plM, List.length_nil]) <;> (try simp only [List.length_nil]) <;> omega
 ·rw [plain_9 r h]
  refine ⟨⟨?_, ?_, ?_, ?_⟩, ?_, ?_, ?_, ?_, ?_, ?_⟩ <;> (try dsimp only [req0, plT, plG, plR, plM, List.length_nil]) <;> (try simp only [List.length_nil]) <;> omega
 ·rw [plain_10 r h]
  refine ⟨⟨?_, ?_, ?_, ?_⟩, ?_, ?_, ?_, ?_, ?_, ?_⟩ <;> (try dsimp only [req0, plT, plG, plR, plM, List.length_nil]) <;> (try simp only [List.length_nil]) <;> omega
theorem pshow_1 (r : Req) (hr : r.fit) (h : plD r = 1) : ∃ t, showP (plainR r) = some t ∧ t.length ≤ 3 * ((plainR r).key.length + (plainR r).val.length + (plainR r).old.length) + 90 := by
 have hf := plain_fit r hr
 have a1 := hr.hg
 have a2 := hr.qk
 have a3 := hr.qb
 have a5 := hr.hr
 have a6 := hr.rts
 have b1 : 1 ≤ plT r ∧ plT r ≤ 16 := by unfold plT; omega
 have b2 : 1 ≤ plG r ∧ plG r ≤ 4294967295 := by unfold plG; omega
 have b3 : 1 ≤ plR r.hr ∧ plR r.hr ≤ 7 := by unfold plR; omega
 have b4 : 1 ≤ plR r.rts ∧ plR r.rts ≤ 7 := by unfold plR; omega
 have b5 : 0 ≤ plM r.ten ∧ plM r.ten ≤ 999999999 := by unfold plM; omega
 have b6 : 0 ≤ plM r.lim ∧ plM r.lim ≤ 999999999 := by unfold plM; omega
 have k1 : okH (plT r) (plG r) (plR r.hr) = true := (okH_iff _ _ _).2 ⟨b1, b2.1, b3⟩
 have k2 : okH 1 1 (plR r.rts) = true := (okH_iff _ _ _).2 ⟨by omega, by omega, b4⟩
 rw [showP_eq _ ⟨hf.hg, hf.qk, hf.qb, hf.lim⟩, plain_1 r h]
 have hl : lineP { req0 with deed := 1, ht := plT r, hg := plG r, hr := plR r.hr, key := r.key } = some [nameN 1, showH (plT r).toNat (plG r).toNat (plR r.hr), word r.key] := by
  simp only [lineP, deedN, show (1 : Int) ≤ 1 ∧ (1 : Int) ≤ 10 by omega, and_self, if_true, Option.bind_some]
  simp [fldsN, shFs, shF, k1, k2, b5]
 unfold showQ
 rw [hl]
 simp only
 rw [if_pos ⟨by simp [bare, deedN, fldsN, setF, req0], fun h => by cases h⟩]
 refine ⟨_, rfl, Nat.le_trans (jn_len _) ?_⟩
 have c1 := word_len r.key
 have c2 := word_len r.val
 have c3 := word_len r.old
 have c4 := digits_le (plT r).toNat (by omega)
 have c5 := digits_le (plG r).toNat (by omega)
 have c6 := letters_len (plR r.hr)
 have c7 := letters_len (plR r.rts)
 have c8 := itoa_len (plM r.ten) (by omega) (by omega)
 have c9 := itoa_len (plM r.lim) (by omega) (by omega)
 have c10 := digits_le r.qk.toNat (by omega)
 have c11 := digits_le r.qb.toNat (by omega)
 try dsimp only [req0]
 simp only [sumL, List.map_cons, List.map_nil, List.sum_cons, List.sum_nil, List.length_cons, List.length_nil, nameN, showH, List.length_append]
 omega
theorem pshow_2 (r : Req) (hr : r.fit) (h : plD r = 2) : ∃ t, showP (plainR r) = some t ∧ t.length ≤ 3 * ((plainR r).key.length + (plainR r).val.length + (plainR r).old.length) + 90 := by
 have hf := plain_fit r hr
 have a1 := hr.hg
 have a2 := hr.qk
 have a3 := hr.qb
 have a5 := hr.hr
 have a6 := hr.rts
 have b1 : 1 ≤ plT r ∧ plT r ≤ 16 := by unfold plT; omega
 have b2 : 1 ≤ plG r ∧ plG r ≤ 4294967295 := by unfold plG; omega
 have b3 : 1 ≤ plR r.hr ∧ plR r.hr ≤ 7 := by unfold plR; omega
 have b4 : 1 ≤ plR r.rts ∧ plR r.rts ≤ 7 := by unfold plR; omega
 have b5 : 0 ≤ plM r.ten ∧ plM r.ten ≤ 999999999 := by unfold plM; omega
 have b6 : 0 ≤ plM r.lim ∧ plM r.lim ≤ 999999999 := by unfold plM; omega
 have k1 : okH (plT r) (plG r) (plR r.hr) = true := (okH_iff _ _ _).2 ⟨b1, b2.1, b3⟩
 have k2 : okH 1 1 (plR r.rts) = true := (okH_iff _ _ _).2 ⟨by omega, by omega, b4⟩
 rw [showP_eq _ ⟨hf.hg, hf.qk, hf.qb, hf.lim⟩, plain_2 r h]
 have hl : lineP { req0 with deed := 2, ht := plT r, hg := plG r, hr := plR r.hr, key := r.key, val := r.val } = some [nameN 2, showH (plT r).toNat (plG r).toNat (plR r.hr), word r.key, word r.val] := by
  simp only [lineP, deedN, show (1 : Int) ≤ 2 ∧ (2 : Int) ≤ 10 by omega, and_self, if_true, Option.bind_some]
  simp [fldsN, shFs, shF, k1, k2, b5]
 unfold showQ
 rw [hl]
 simp only
 rw [if_pos ⟨by simp [bare, deedN, fldsN, setF, req0], fun h => by cases h⟩]
 refine ⟨_, rfl, Nat.le_trans (jn_len _) ?_⟩
 have c1 := word_len r.key
 have c2 := word_len r.val
 have c3 := word_len r.old
 have c4 := digits_le (plT r).toNat (by omega)
 have c5 := digits_le (plG r).toNat (by omega)
 have c6 := letters_len (plR r.hr)
 have c7 := letters_len (plR r.rts)
 have c8 := itoa_len (plM r.ten) (by omega) (by omega)
 have c9 := itoa_len (plM r.lim) (by omega) (by omega)
 have c10 := digits_le r.qk.toNat (by omega)
 have c11 := digits_le r.qb.toNat (by omega)
 try dsimp only [req0]
 simp only [sumL, List.map_cons, List.map_nil, List.sum_cons, List.sum_nil, List.length_cons, List.length_nil, nameN, showH, List.length_append]
 omega
theorem pshow_3 (r : Req) (hr : r.fit) (h : plD r = 3) : ∃ t, showP (plainR r) = some t ∧ t.length ≤ 3 * ((plainR r).key.length + (plainR r).val.length + (plainR r).old.length) + 90 := by
 have hf := plain_fit r hr
 have a1 := hr.hg
 have a2 := hr.qk
 have a3 := hr.qb
 have a5 := hr.hr
 have a6 := hr.rts
 have b1 : 1 ≤ plT r ∧ plT r ≤ 16 := by unfold plT; omega
 have b2 : 1 ≤ plG r ∧ plG r ≤ 4294967295 := by unfold plG; omega
 have b3 : 1 ≤ plR r.hr ∧ plR r.hr ≤ 7 := by unfold plR; omega
 have b4 : 1 ≤ plR r.rts ∧ plR r.rts ≤ 7 := by unfold plR; omega
 have b5 : 0 ≤ plM r.ten ∧ plM r.ten ≤ 999999999 := by unfold plM; omega
 have b6 : 0 ≤ plM r.lim ∧ plM r.lim ≤ 999999999 := by unfold plM; omega
 have k1 : okH (plT r) (plG r) (plR r.hr) = true := (okH_iff _ _ _).2 ⟨b1, b2.1, b3⟩
 have k2 : okH 1 1 (plR r.rts) = true := (okH_iff _ _ _).2 ⟨by omega, by omega, b4⟩
 rw [showP_eq _ ⟨hf.hg, hf.qk, hf.qb, hf.lim⟩, plain_3 r h]
 have hl : lineP { req0 with deed := 3, ht := plT r, hg := plG r, hr := plR r.hr, key := r.key } = some [nameN 3, showH (plT r).toNat (plG r).toNat (plR r.hr), word r.key] := by
  simp only [lineP, deedN, show (1 : Int) ≤ 3 ∧ (3 : Int) ≤ 10 by omega, and_self, if_true, Option.bind_some]
  simp [fldsN, shFs, shF, k1, k2, b5]
 unfold showQ
 rw [hl]
 simp only
 rw [if_pos ⟨by simp [bare, deedN, fldsN, setF, req0], fun h => by cases h⟩]
 refine ⟨_, rfl, Nat.le_trans (jn_len _) ?_⟩
 have c1 := word_len r.key
 have c2 := word_len r.val
 have c3 := word_len r.old
 have c4 := digits_le (plT r).toNat (by omega)
 have c5 := digits_le (plG r).toNat (by omega)
 have c6 := letters_len (plR r.hr)
 have c7 := letters_len (plR r.rts)
 have c8 := itoa_len (plM r.ten) (by omega) (by omega)
 have c9 := itoa_len (plM r.lim) (by omega) (by omega)
 have c10 := digits_le r.qk.toNat (by omega)
 have c11 := digits_le r.qb.toNat (by omega)
 try dsimp only [req0]
 simp only [sumL, List.map_cons, List.map_nil, List.sum_cons, List.sum_nil, List.length_cons, List.length_nil, nameN, showH, List.length_append]
 omega
theorem pshow_4 (r : Req) (hr : r.fit) (h : plD r = 4) : ∃ t, showP (plainR r) = some t ∧ t.length ≤ 3 * ((plainR r).key.length + (plainR r).val.length + (plainR r).old.length) + 90 := by
 have hf := plain_fit r hr
 have a1 := hr.hg
 have a2 := hr.qk
 have a3 := hr.qb
 have a5 := hr.hr
 have a6 := hr.rts
 have b1 : 1 ≤ plT r ∧ plT r ≤ 16 := by unfold plT; omega
 have b2 : 1 ≤ plG r ∧ plG r ≤ 4294967295 := by unfold plG; omega
 have b3 : 1 ≤ plR r.hr ∧ plR r.hr ≤ 7 := by unfold plR; omega
 have b4 : 1 ≤ plR r.rts ∧ plR r.rts ≤ 7 := by unfold plR; omega
 have b5 : 0 ≤ plM r.ten ∧ plM r.ten ≤ 999999999 := by unfold plM; omega
 have b6 : 0 ≤ plM r.lim ∧ plM r.lim ≤ 999999999 := by unfold plM; omega
 have k1 : okH (plT r) (plG r) (plR r.hr) = true := (okH_iff _ _ _).2 ⟨b1, b2.1, b3⟩
 have k2 : okH 1 1 (plR r.rts) = true := (okH_iff _ _ _).2 ⟨by omega, by omega, b4⟩
 rw [showP_eq _ ⟨hf.hg, hf.qk, hf.qb, hf.lim⟩, plain_4 r h]
 have hl : lineP { req0 with deed := 4, ht := plT r, hg := plG r, hr := plR r.hr, key := r.key, old := r.old, val := r.val } = some [nameN 4, showH (plT r).toNat (plG r).toNat (plR r.hr), word r.key, word r.old, word r.val] := by
  simp only [lineP, deedN, show (1 : Int) ≤ 4 ∧ (4 : Int) ≤ 10 by omega, and_self, if_true, Option.bind_some]
  simp [fldsN, shFs, shF, k1, k2, b5]
 unfold showQ
 rw [hl]
 simp only
 rw [if_pos ⟨by simp [bare, deedN, fldsN, setF, req0], fun h => by cases h⟩]
 refine ⟨_, rfl, Nat.le_trans (jn_len _) ?_⟩
 have c1 := word_len r.key
 have c2 := word_len r.val
 have c3 := word_len r.old
 have c4 := digits_le (plT r).toNat (by omega)
 have c5 := digits_le (plG r).toNat (by omega)
 have c6 := letters_len (plR r.hr)
 have c7 := letters_len (plR r.rts)
 have c8 := itoa_len (plM r.ten) (by omega) (by omega)
 have c9 := itoa_len (plM r.lim) (by omega) (by omega)
 have c10 := digits_le r.qk.toNat (by omega)
 have c11 := digits_le r.qb.toNat (by omega)
 try dsimp only [req0]
 simp only [sumL, List.map_cons, List.map_nil, List.sum_cons, List.sum_nil, List.length_cons, List.length_nil, nameN, showH, List.length_append]
 omega
theorem pshow_5 (r : Req) (hr : r.fit) (h : plD r = 5) : ∃ t, showP (plainR r) = some t ∧ t.length ≤ 3 * ((plainR r).key.length + (plainR r).val.length + (plainR r).old.length) + 90 := by
 have hf := plain_fit r hr
 have a1 := hr.hg
 have a2 := hr.qk
 have a3 := hr.qb
 have a5 := hr.hr
 have a6 := hr.rts
 have b1 : 1 ≤ plT r ∧ plT r ≤ 16 := by unfold plT; omega
 have b2 : 1 ≤ plG r ∧ plG r ≤ 4294967295 := by unfold plG; omega
 have b3 : 1 ≤ plR r.hr ∧ plR r.hr ≤ 7 := by unfold plR; omega
 have b4 : 1 ≤ plR r.rts ∧ plR r.rts ≤ 7 := by unfold plR; omega
 have b5 : 0 ≤ plM r.ten ∧ plM r.ten ≤ 999999999 := by unfold plM; omega
 have b6 : 0 ≤ plM r.lim ∧ plM r.lim ≤ 999999999 := by unfold plM; omega
 have k1 : okH (plT r) (plG r) (plR r.hr) = true := (okH_iff _ _ _).2 ⟨b1, b2.1, b3⟩
 have k2 : okH 1 1 (plR r.rts) = true := (okH_iff _ _ _).2 ⟨by omega, by omega, b4⟩
 rw [showP_eq _ ⟨hf.hg, hf.qk, hf.qb, hf.lim⟩, plain_5 r h]
 have hl : lineP { req0 with deed := 5, ht := plT r, hg := plG r, hr := plR r.hr, key := r.key, lim := plM r.lim } = some [nameN 5, showH (plT r).toNat (plG r).toNat (plR r.hr), word r.key, Lib.itoa (plM r.lim)] := by
  simp only [lineP, deedN, show (1 : Int) ≤ 5 ∧ (5 : Int) ≤ 10 by omega, and_self, if_true, Option.bind_some]
  simp [fldsN, shFs, shF, k1, k2, b5]
 unfold showQ
 rw [hl]
 simp only
 rw [if_pos ⟨by simp [bare, deedN, fldsN, setF, req0], fun _ => b6⟩]
 refine ⟨_, rfl, Nat.le_trans (jn_len _) ?_⟩
 have c1 := word_len r.key
 have c2 := word_len r.val
 have c3 := word_len r.old
 have c4 := digits_le (plT r).toNat (by omega)
 have c5 := digits_le (plG r).toNat (by omega)
 have c6 := letters_len (plR r.hr)
 have c7 := letters_len (plR r.rts)
 have c8 := itoa_len (plM r.ten) (by omega) (by omega)
 have c9 := itoa_len (plM r.lim) (by omega) (by omega)
 have c10 := digits_le r.qk.toNat (by omega)
 have c11 := digits_le r.qb.toNat (by omega)
 try dsimp only [req0]
 simp only [sumL, List.map_cons, List.map_nil, List.sum_cons, List.sum_nil, List.length_cons, List.length_nil, nameN, showH, List.length_append]
 omega
theorem pshow_6 (r : Req) (hr : r.fit) (h : plD r = 6) : ∃ t, showP (plainR r) = some t ∧ t.length ≤ 3 * ((plainR r).key.length + (plainR r).val.length + (plainR r).old.length) + 90 := by
 have hf := plain_fit r hr
 have a1 := hr.hg
 have a2 := hr.qk
 have a3 := hr.qb
 have a5 := hr.hr
 have a6 := hr.rts
 have b1 : 1 ≤ plT r ∧ plT r ≤ 16 := by unfold plT; omega
 have b2 : 1 ≤ plG r ∧ plG r ≤ 4294967295 := by unfold plG; omega
 have b3 : 1 ≤ plR r.hr ∧ plR r.hr ≤ 7 := by unfold plR; omega
 have b4 : 1 ≤ plR r.rts ∧ plR r.rts ≤ 7 := by unfold plR; omega
 have b5 : 0 ≤ plM r.ten ∧ plM r.ten ≤ 999999999 := by unfold plM; omega
 have b6 : 0 ≤ plM r.lim ∧ plM r.lim ≤ 999999999 := by unfold plM; omega
 have k1 : okH (plT r) (plG r) (plR r.hr) = true := (okH_iff _ _ _).2 ⟨b1, b2.1, b3⟩
 have k2 : okH 1 1 (plR r.rts) = true := (okH_iff _ _ _).2 ⟨by omega, by omega, b4⟩
 rw [showP_eq _ ⟨hf.hg, hf.qk, hf.qb, hf.lim⟩, plain_6 r h]
 have hl : lineP { req0 with deed := 6, ht := plT r, hg := plG r, hr := plR r.hr } = some [nameN 6, showH (plT r).toNat (plG r).toNat (plR r.hr)] := by
  simp only [lineP, deedN, show (1 : Int) ≤ 6 ∧ (6 : Int) ≤ 10 by omega, and_self, if_true, Option.bind_some]
  simp [fldsN, shFs, shF, k1, k2, b5]
 unfold showQ
 rw [hl]
 simp only
 rw [if_pos ⟨by simp [bare, deedN, fldsN, setF, req0], fun h => by cases h⟩]
 refine ⟨_, rfl, Nat.le_trans (jn_len _) ?_⟩
 have c1 := word_len r.key
 have c2 := word_len r.val
 have c3 := word_len r.old
 have c4 := digits_le (plT r).toNat (by omega)
 have c5 := digits_le (plG r).toNat (by omega)
 have c6 := letters_len (plR r.hr)
 have c7 := letters_len (plR r.rts)
 have c8 := itoa_len (plM r.ten) (by omega) (by omega)
 have c9 := itoa_len (plM r.lim) (by omega) (by omega)
 have c10 := digits_le r.qk.toNat (by omega)
 have c11 := digits_le r.qb.toNat (by omega)
 try dsimp only [req0]
 simp only [sumL, List.map_cons, List.map_nil, List.sum_cons, List.sum_nil, List.length_cons, List.length_nil, nameN, showH, List.length_append]
 omega
theorem pshow_7 (r : Req) (hr : r.fit) (h : plD r = 7) : ∃ t, showP (plainR r) = some t ∧ t.length ≤ 3 * ((plainR r).key.length + (plainR r).val.length + (plainR r).old.length) + 90 := by
 have hf := plain_fit r hr
 have a1 := hr.hg
 have a2 := hr.qk
 have a3 := hr.qb
 have a5 := hr.hr
 have a6 := hr.rts
 have b1 : 1 ≤ plT r ∧ plT r ≤ 16 := by unfold plT; omega
 have b2 : 1 ≤ plG r ∧ plG r ≤ 4294967295 := by unfold plG; omega
 have b3 : 1 ≤ plR r.hr ∧ plR r.hr ≤ 7 := by unfold plR; omega
 have b4 : 1 ≤ plR r.rts ∧ plR r.rts ≤ 7 := by unfold plR; omega
 have b5 : 0 ≤ plM r.ten ∧ plM r.ten ≤ 999999999 := by unfold plM; omega
 have b6 : 0 ≤ plM r.lim ∧ plM r.lim ≤ 999999999 := by unfold plM; omega
 have k1 : okH (plT r) (plG r) (plR r.hr) = true := (okH_iff _ _ _).2 ⟨b1, b2.1, b3⟩
 have k2 : okH 1 1 (plR r.rts) = true := (okH_iff _ _ _).2 ⟨by omega, by omega, b4⟩
 rw [showP_eq _ ⟨hf.hg, hf.qk, hf.qb, hf.lim⟩, plain_7 r h]
 have hl : lineP { req0 with deed := 7, ten := plM r.ten, qk := r.qk, qb := r.qb } = some [nameN 7, Lib.itoa (plM r.ten), Lib.decDigits r.qk.toNat, Lib.decDigits r.qb.toNat] := by
  simp only [lineP, deedN, show (1 : Int) ≤ 7 ∧ (7 : Int) ≤ 10 by omega, and_self, if_true, Option.bind_some]
  simp [fldsN, shFs, shF, k1, k2, b5]
 unfold showQ
 rw [hl]
 simp only
 rw [if_pos ⟨by simp [bare, deedN, fldsN, setF, req0], fun h => by cases h⟩]
 refine ⟨_, rfl, Nat.le_trans (jn_len _) ?_⟩
 have c1 := word_len r.key
 have c2 := word_len r.val
 have c3 := word_len r.old
 have c4 := digits_le (plT r).toNat (by omega)
 have c5 := digits_le (plG r).toNat (by omega)
 have c6 := letters_len (plR r.hr)
 have c7 := letters_len (plR r.rts)
 have c8 := itoa_len (plM r.ten) (by omega) (by omega)
 have c9 := itoa_len (plM r.lim) (by omega) (by omega)
 have c10 := digits_le r.qk.toNat (by omega)
 have c11 := digits_le r.qb.toNat (by omega)
 try dsimp only [req0]
 simp only [sumL, List.map_cons, List.map_nil, List.sum_cons, List.sum_nil, List.length_cons, List.length_nil, nameN, showH, List.length_append]
 omega
theorem pshow_8 (r : Req) (hr : r.fit) (h : plD r = 8) : ∃ t, showP (plainR r) = some t ∧ t.length ≤ 3 * ((plainR r).key.length + (plainR r).val.length + (plainR r).old.length) + 90 := by
 have hf := plain_fit r hr
 have a1 := hr.hg
 have a2 := hr.qk
 have a3 := hr.qb
 have a5 := hr.hr
 have a6 := hr.rts
 have b1 : 1 ≤ plT r ∧ plT r ≤ 16 := by unfold plT; omega
 have b2 : 1 ≤ plG r ∧ plG r ≤ 4294967295 := by unfold plG; omega
 have b3 : 1 ≤ plR r.hr ∧ plR r.hr ≤ 7 := by unfold plR; omega
 have b4 : 1 ≤ plR r.rts ∧ plR r.rts ≤ 7 := by unfold plR; omega
 have b5 : 0 ≤ plM r.ten ∧ plM r.ten ≤ 999999999 := by unfold plM; omega
 have b6 : 0 ≤ plM r.lim ∧ plM r.lim ≤ 999999999 := by unfold plM; omega
 have k1 : okH (plT r) (plG r) (plR r.hr) = true := (okH_iff _ _ _).2 ⟨b1, b2.1, b3⟩
 have k2 : okH 1 1 (plR r.rts) = true := (okH_iff _ _ _).2 ⟨by omega, by omega, b4⟩
 rw [showP_eq _ ⟨hf.hg, hf.qk, hf.qb, hf.lim⟩, plain_8 r h]
 have hl : lineP { req0 with deed := 8, ten := plM r.ten } = some [nameN 8, Lib.itoa (plM r.ten)] := by
  simp only [lineP, deedN, show (1 : Int) ≤ 8 ∧ (8 : Int) ≤ 10 by omega, and_self, if_true, Option.bind_some]
  simp [fldsN, shFs, shF, k1, k2, b5]
 unfold showQ
 rw [hl]
 simp only
 rw [if_pos ⟨by simp [bare, deedN, fldsN, setF, req0], fun h => by cases h⟩]
 refine ⟨_, rfl, Nat.le_trans (jn_len _) ?_⟩
 have c1 := word_len r.key
 have c2 := word_len r.val
 have c3 := word_len r.old
 have c4 := digits_le (plT r).toNat (by omega)
 have c5 := digits_le (plG r).toNat (by omega)
 have c6 := letters_len (plR r.hr)
 have c7 := letters_len (plR r.rts)
 have c8 := itoa_len (plM r.ten) (by omega) (by omega)
 have c9 := itoa_len (plM r.lim) (by omega) (by omega)
 have c10 := digits_le r.qk.toNat (by omega)
 have c11 := digits_le r.qb.toNat (by omega)
 try dsimp only [req0]
 simp only [sumL, List.map_cons, List.map_nil, List.sum_cons, List.sum_nil, List.length_cons, List.length_nil, nameN, showH, List.length_append]
 omega
theorem pshow_9 (r : Req) (hr : r.fit) (h : plD r = 9) : ∃ t, showP (plainR r) = some t ∧ t.length ≤ 3 * ((plainR r).key.length + (plainR r).val.length + (plainR r).old.length) + 90 := by
 have hf := plain_fit r hr
 have a1 := hr.hg
 have a2 := hr.qk
 have a3 := hr.qb
 have a5 := hr.hr
 have a6 := hr.rts
 have b1 : 1 ≤ plT r ∧ plT r ≤ 16 := by unfold plT; omega
 have b2 : 1 ≤ plG r ∧ plG r ≤ 4294967295 := by unfold plG; omega
 have b3 : 1 ≤ plR r.hr ∧ plR r.hr ≤ 7 := by unfold plR; omega
 have b4 : 1 ≤ plR r.rts ∧ plR r.rts ≤ 7 := by unfold plR; omega
 have b5 : 0 ≤ plM r.ten ∧ plM r.ten ≤ 999999999 := by unfold plM; omega
 have b6 : 0 ≤ plM r.lim ∧ plM r.lim ≤ 999999999 := by unfold plM; omega
 have k1 : okH (plT r) (plG r) (plR r.hr) = true := (okH_iff _ _ _).2 ⟨b1, b2.1, b3⟩
 have k2 : okH 1 1 (plR r.rts) = true := (okH_iff _ _ _).2 ⟨by omega, by omega, b4⟩
 rw [showP_eq _ ⟨hf.hg, hf.qk, hf.qb, hf.lim⟩, plain_9 r h]
 have hl : lineP { req0 with deed := 9, ten := plM r.ten, rts := plR r.rts } = some [nameN 9, Lib.itoa (plM r.ten), lettersR (plR r.rts)] := by
  simp only [lineP, deedN, show (1 : Int) ≤ 9 ∧ (9 : Int) ≤ 10 by omega, and_self, if_true, Option.bind_some]
  simp [fldsN, shFs, shF, k1, k2, b5]
 unfold showQ
 rw [hl]
 simp only
 rw [if_pos ⟨by simp [bare, deedN, fldsN, setF, req0], fun h => by cases h⟩]
 refine ⟨_, rfl, Nat.le_trans (jn_len _) ?_⟩
 have c1 := word_len r.key
 have c2 := word_len r.val
 have c3 := word_len r.old
 have c4 := digits_le (plT r).toNat (by omega)
 have c5 := digits_le (plG r).toNat (by omega)
 have c6 := letters_len (plR r.hr)
 have c7 := letters_len (plR r.rts)
 have c8 := itoa_len (plM r.ten) (by omega) (by omega)
 have c9 := itoa_len (plM r.lim) (by omega) (by omega)
 have c10 := digits_le r.qk.toNat (by omega)
 have c11 := digits_le r.qb.toNat (by omega)
 try dsimp only [req0]
 simp only [sumL, List.map_cons, List.map_nil, List.sum_cons, List.sum_nil, List.length_cons, List.length_nil, nameN, showH, List.length_append]
 omega
theorem pshow_10 (r : Req) (hr : r.fit) (h : plD r = 10) : ∃ t, showP (plainR r) = some t ∧ t.length ≤ 3 * ((plainR r).key.length + (plainR r).val.length + (plainR r).old.length) + 90 := by
 have hf := plain_fit r hr
 have a1 := hr.hg
 have a2 := hr.qk
 have a3 := hr.qb
 have a5 := hr.hr
 have a6 := hr.rts
 have b1 : 1 ≤ plT r ∧ plT r ≤ 16 := by unfold plT; omega
 have b2 : 1 ≤ plG r ∧ plG r ≤ 4294967295 := by unfold plG; omega
 have b3 : 1 ≤ plR r.hr ∧ plR r.hr ≤ 7 := by unfold plR; omega
 have b4 : 1 ≤ plR r.rts ∧ plR r.rts ≤ 7 := by unfold plR; omega
 have b5 : 0 ≤ plM r.ten ∧ plM r.ten ≤ 999999999 := by unfold plM; omega
 have b6 : 0 ≤ plM r.lim ∧ plM r.lim ≤ 999999999 := by unfold plM; omega
 have k1 : okH (plT r) (plG r) (plR r.hr) = true := (okH_iff _ _ _).2 ⟨b1, b2.1, b3⟩
 have k2 : okH 1 1 (plR r.rts) = true := (okH_iff _ _ _).2 ⟨by omega, by omega, b4⟩
 rw [showP_eq _ ⟨hf.hg, hf.qk, hf.qb, hf.lim⟩, plain_10 r h]
 have hl : lineP { req0 with deed := 10, ten := plM r.ten } = some [nameN 10, Lib.itoa (plM r.ten)] := by
  simp only [lineP, deedN, show (1 : Int) ≤ 10 ∧ (10 : Int) ≤ 10 by omega, and_self, if_true, Option.bind_some]
  simp [fldsN, shFs, shF, k1, k2, b5]
 unfold showQ
 rw [hl]
 simp only
 rw [if_pos ⟨by simp [bare, deedN, fldsN, setF, req0], fun h => by cases h⟩]
 refine ⟨_, rfl, Nat.le_trans (jn_len _) ?_⟩
 have c1 := word_len r.key
 have c2 := word_len r.val
 have c3 := word_len r.old
 have c4 := digits_le (plT r).toNat (by omega)
 have c5 := digits_le (plG r).toNat (by omega)
 have c6 := letters_len (plR r.hr)
 have c7 := letters_len (plR r.rts)
 have c8 := itoa_len (plM r.ten) (by omega) (by omega)
 have c9 := itoa_len (plM r.lim) (by omega) (by omega)
 have c10 := digits_le r.qk.toNat (by omega)
 have c11 := digits_le r.qb.toNat (by omega)
 try dsimp only [req0]
 simp only [sumL, List.map_cons, List.map_nil, List.sum_cons, List.sum_nil, List.length_cons, List.length_nil, nameN, showH, List.length_append]
 omega
theorem plain_show (r : Req) (hr : r.fit) : ∃ t, showP (plainR r) = some t ∧ t.length ≤ 3 * ((plainR r).key.length + (plainR r).val.length + (plainR r).old.length) + 90 := by
 have h : plD r = 1 ∨ plD r = 2 ∨ plD r = 3 ∨ plD r = 4 ∨ plD r = 5 ∨ plD r = 6 ∨ plD r = 7 ∨ plD r = 8 ∨ plD r = 9 ∨ plD r = 10 := by have := plD_range r; omega
 rcases h with h | h | h | h | h | h | h | h | h | h
 ·exact pshow_1 r hr h
 ·exact pshow_2 r hr h
 ·exact pshow_3 r hr h
 ·exact pshow_4 r hr h
 ·exact pshow_5 r hr h
 ·exact pshow_6 r hr h
 ·exact pshow_7 r hr h
 ·exact pshow_8 r hr h
 ·exact pshow_9 r hr h
 ·exact pshow_10 r hr h
end Go.Proofs.YtkbedajbbakihaaGreatDoor

/-
 The law's own script fits and shows, plainly. Conditions: none.
-/
namespace Go.Proofs.YtkbedajbbakihaaGreatDoor
open Go.RowKit
set_option linter.unusedSimpArgs false
set_option linter.unusedVariables false

def szR (r : Req) : Nat := r.key.length + r.val.length + r.old.length
def szs (es : List (Int × Req)) : Nat := (es.map fun e => szR e.2).sum
/-- an entry of the law's script -/
def Plain1 (e : Int × Req) : Prop := (0 ≤ e.1 ∧ e.1 ≤ 999999999) ∧ e.2.fit ∧ ∃ t, showP e.2 = some t ∧ t.length ≤ 3 * szR e.2 + 90
def entP (e : Int × Req) : Int × Req := (plM e.1, plainR e.2)
theorem entP_plain (e : Int × Req) (h : e.2.fit) : Plain1 (entP e) :=
 ⟨by unfold entP plM; dsimp only; omega, plain_fit _ h, plain_show _ h⟩
theorem itoa_small (x : Int) (h : 0 ≤ x ∧ x ≤ 999999999) : (Lib.itoa x).length ≤ 21 := itoa_len x (by omega) (by omega)
theorem ents_len (es : List (Int × Req)) (h : ∀ e ∈ es, Plain1 e) : ∃ a, entsL es = some a ∧ a.length ≤ 3 * szs es + 120 * es.length := by
 induction es with
 | nil => exact ⟨[], rfl, by simp [szs]⟩
 | cons e t ih =>
  obtain ⟨a, h1, h2⟩ := ih fun x hx => h x (List.mem_cons_of_mem _ hx)
  obtain ⟨h3, _, u, h4, h5⟩ := h e List.mem_cons_self
  refine ⟨(Lib.itoa e.1 ++ 32 :: u ++ [10]) ++ a, ?_, ?_⟩
  ·rw [entsL, entL, h4, Option.bind_some, if_pos h3, Option.bind_some, h1]
   rfl
  ·have h6 := itoa_small e.1 h3
   have h7 : szs (e :: t) = szR e.2 + szs t := by simp [szs]
   rw [h7]
   simp only [List.length_append, List.length_cons, List.length_nil]
   omega
theorem pks_len (n : Nat) (ps : List Int) (h : ∀ p ∈ ps, inI p) : ∀ i, (pkF n i ps).length ≤ 30 * ps.length := by
 induction ps with
 | nil => intro i; simp [pkF]
 | cons p t ih =>
  intro i
  have h1 := ih (fun x hx => h x (List.mem_cons_of_mem _ hx)) (i + 1)
  have h2 := h p List.mem_cons_self
  have h3 := itoa_len p h2.1 h2.2
  have h4 : (if i % 16 = 0 then picksN else []).length ≤ 5 := by split <;> simp [picksN]
  have h5 : (if i % 16 = 15 ∨ i + 1 = n then ([10] : List UInt8) else []).length ≤ 1 := by split <;> simp
  rw [pkF, pkB]
  simp only [List.length_append, List.length_cons] at h4 h5 ⊢
  omega
theorem back_fmt (es : List (Int × Req)) (he : ∀ e ∈ es, Plain1 e) (hk : es.length ≤ 100) (hs : szs es ≤ 60000) (ps : List Int) (hp : ps.length ≤ 1000) (hin : ∀ p ∈ ps, inI p) : ∃ t, fmtP (es, ps) = .ok t := by
 obtain ⟨a, h1, h2⟩ := ents_len es he
 have h3 := pks_len ps.length ps hin 0
 have hb : bigP (es, ps) = false := by
  unfold bigP
  simp only [Bool.or_eq_false_iff, decide_eq_false_iff_not]
  omega
 refine ⟨a ++ pkF ps.length 0 ps, ?_⟩
 unfold fmtP
 rw [hb, h1]
 simp only [Bool.false_eq_true, if_false]
 rw [if_neg (by simp only [List.length_append]; omega)]
/-- what is asked of each entry ahead of the text -/
theorem ent_checks (r : Req) (hr : r.fit) : ∃ t, showP (plainR r) = some t ∧ readR (spl t) = some (plainR r) ∧ ClnT t ∧ t.length ≤ 3 * szR (plainR r) + 90 := by
 obtain ⟨t, h1, h2⟩ := plain_show r hr
 exact ⟨t, h1, showP_back h1, fun c hc => .inl (clnL_showP h1 c hc), h2⟩
end Go.Proofs.YtkbedajbbakihaaGreatDoor
