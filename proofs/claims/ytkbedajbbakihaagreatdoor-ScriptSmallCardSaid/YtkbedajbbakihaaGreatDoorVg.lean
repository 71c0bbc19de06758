/-
 Texts of this proof, put together (Lx, Ll): each part's first words say what it holds. Conditions: as each part says.
-/
import Derived.Test.YtkbedajbbakihaaGreatDoorYd
import Derived.Test.YtkbedajbbakihaaGreatDoorVe
import Derived.Test.YtkbedajbbakihaaGreatDoorVf
/-
 What the law's limits call: the texts, and what comes of them. Conditions: the listed variables read as laid.
-/
namespace Go.Proofs.YtkbedajbbakihaaGreatDoor
open Go.RowKit Go.Sort Go.Lib
set_option linter.unusedSimpArgs false
set_option linter.unusedVariables false

/-- Parse at a text that reads: the rows are its own -/
def POw (s : Scr) (n m : Nat) (W : World) (e : Ending) (w' : World) : Prop := Later W w' ∧ ∃ ao ca bo cb, e = .returned (.tuple #[.agg #[.slice ao n ca, .slice bo m cb], .int .i64 0, .int .i64 0]) ∧ w'.ownsRow W.heap.size 59 13 (.slice ao n ca) n (entC s.1) ∧ w'.ownsRow W.heap.size 3 1 (.slice bo m cb) m (ints s.2)
theorem Parse_own {l : List UInt8} {s : Scr} {n m : Nat} (h : parseP l = .ok s) (hn : s.1.length = n) (hm : s.2.length = m) (S : ByteArray) (hS : S = ⟨l.toArray⟩) (W : World) (hW : Laid W) : Calls Tryz.prog 17 #[.string S] W (POw s n m W) := by
 subst hS hn hm
 refine (Parse_any l W hW).mono ?_
 rw [h]
 rintro e w' ⟨h1, ev, pv, rfl, h2, h3⟩
 obtain ⟨ao, ca, rfl⟩ := slice_of_own h2
 obtain ⟨bo, cb, rfl⟩ := slice_of_own h3
 exact ⟨h1, ao, ca, bo, cb, rfl, h2, h3⟩
theorem Parse_bad {l : List UInt8} {n : Nat} {c : Int} (h : parseP l = .error (n, c)) (S : ByteArray) (hS : S = ⟨l.toArray⟩) (W : World) (hW : Laid W) : Calls Tryz.prog 17 #[.string S] W (Ret (.tuple #[.agg #[.slice none 0 0, .slice none 0 0], .int .i64 n, .int .i64 c]) W) := by
 subst hS
 exact Parse_err h W hW
theorem Format_ok {s : Scr} {t : List UInt8} (h : fmtP s = .ok t) (T : ByteArray) (hT : T = ⟨t.toArray⟩) (hf : EsFit s.1) (hi : ∀ p ∈ s.2, inI p) (ev pv : Value) (W : World) (hW : Laid W) (hev : EntsAt W ev s.1) (hpv : NumsAt W pv s.2) :
  Calls Tryz.prog 25 #[.agg #[ev, pv]] W fun e w' => e = .returned (.tuple #[.string T, .int .i64 0]) ∧ Later W w' := by
 subst hT
 have hb : bigP s = false := by
  cases hb : bigP s with
  | false => rfl
  | true => unfold fmtP at h; rw [hb, if_pos rfl] at h; cases h
 refine (Format_is ev pv s W hW hb hev hpv hf hi).mono ?_
 rw [h]
 rintro e w' ⟨h1, rfl⟩
 exact ⟨rfl, h1⟩
theorem Format_no {s : Scr} {c : Int} (h : fmtP s = .error c) (hf : EsFit s.1) (hi : ∀ p ∈ s.2, inI p) (hn : s.1.length ≤ 140737488355328) (hm : s.2.length ≤ 140737488355328) (ev pv : Value) (W : World) (hW : Laid W) (hev : EntsAt W ev s.1) (hpv : NumsAt W pv s.2) :
  Calls Tryz.prog 25 #[.agg #[ev, pv]] W fun e w' => e = .returned (.tuple #[.string ⟨#[]⟩, .int .i64 c]) ∧ Later W w' := by
 have hc : Calls Tryz.prog 25 #[.agg #[ev, pv]] W (FmEnd (fmtP s) W) := by
  cases hb : bigP s with
  | false => exact Format_is ev pv s W hW hb hev hpv hf hi
  | true => exact Format_big ev pv s W hb hev hpv hn hm
 refine hc.mono ?_
 rw [h]
 rintro e w' ⟨h1, rfl⟩
 exact ⟨rfl, h1⟩
theorem lmR_fit : lmR.fit := by refine ⟨⟨?_, ?_, ?_, ?_⟩, ?_, ?_, ?_, ?_, ?_, ?_⟩ <;> simp [lmR, req0]
theorem lkR_fit (n : Nat) (h : n ≤ 5000000) : (lkR n).fit := by
 refine ⟨⟨?_, ?_, ?_, ?_⟩, ?_, ?_, ?_, ?_, ?_, ?_⟩ <;> simp [lkR, req0]
 exact h
theorem fit_rep (n : Nat) : EsFit (List.replicate n ((0 : Int), lmR)) := by
 intro e he
 obtain rfl := (List.mem_replicate.1 he).2
 exact ⟨⟨by decide, by decide⟩, lmR_fit⟩
/-- 4096 entries -/
theorem limA : ∃ es : List (Int × Req), es.length + 1 = 4096 ∧ parseP (repL (lmL ++ [10]) 4096) = .ok ((0, lmR) :: es, []) ∧ fmtP (((0, lmR) :: es) ++ [(0, lmR)], []) = .error 3 ∧ EsFit (((0, lmR) :: es) ++ [(0, lmR)]) := by
 refine ⟨List.replicate 4095 (0, lmR), by rw [List.length_replicate], lm_parse 4096 (by decide), lm_bigN 4096 rfl, ?_⟩
 intro e he
 rcases List.mem_append.1 he with he | he
 ·exact fit_rep 4096 e he
 ·exact fit_rep 1 e (by rw [List.mem_singleton.1 he]; simp)
/-- 65536 picks -/
theorem limB : ∃ (ps : List Int) (t : List UInt8), ps.length = 65536 ∧ parseP (picksN ++ repL [32, 48] 65536 ++ [10]) = .ok ([], ps) ∧ fmtP ([], ps) = .ok t ∧ t.length = 155648 ∧ fmtP ([], ps ++ [0]) = .error 3 ∧ (∀ p ∈ ps ++ [0], inI p) := by
 obtain ⟨t, h1, h2⟩ := lp_fmt
 refine ⟨List.replicate 65536 0, t, List.length_replicate, lp_parse 65536 (by decide) (by decide), h1, h2, lp_bigN 65536 rfl, fun p hp => ?_⟩
 rcases List.mem_append.1 hp with hp | hp
 ·exact in_zero 65536 p hp
 ·exact in_zero 1 p (by rw [List.mem_singleton.1 hp]; simp)
/-- results -/
theorem dnR_ok : dnR 0 [111, 107] 4096 = .ok (repL (dnL 0 [111, 107]) 4096) := by
 have h : (dnL 0 [111, 107]).length = 11 := by kernel_rfl
 rw [dnR, if_neg (by decide), if_neg (by rw [repL_len, h]; decide)]
theorem dnR_long (n : Nat) (hn : n = 262144) : dnR 0 (jn [nVal, word (List.replicate n 97)]) 1 = .error 3 ∧ (jn [nVal, word (List.replicate n 97)]).length = 262150 := by
 have h : (jn [nVal, word (List.replicate n 97)]).length = 262150 := by
  rw [word_rep _ (by omega)]
  simp only [jn, nVal, List.length_append, List.length_cons, List.length_nil, List.length_replicate]
  omega
 refine ⟨?_, h⟩
 obtain ⟨x, hx⟩ : ∃ x, jn [nVal, word (List.replicate n 97)] = x := ⟨_, rfl⟩
 rw [hx] at h ⊢
 have hl : (dnL 0 x).length = 262159 := by
  have h0 : Lib.itoa 0 = [48] := by kernel_rfl
  rw [dnL, h0]
  simp only [jn, List.length_append, List.length_cons, List.length_nil, h]
 rw [dnR, if_neg (by decide), if_pos (by rw [repL_len, hl]; decide)]
theorem dnR_no : dnR 1000000000 [111, 107] 1 = .error 4 := by rw [dnR, if_pos (by decide)]
theorem rep_call (c : List UInt8) (C : ByteArray) (hC : C = ⟨c.toArray⟩) (n : Nat) (hn : n * c.length ≤ 1000000) (hn2 : n ≤ 1000000) (S : ByteArray) (hS : S = ⟨(repL c n).toArray⟩) (W : World) : Calls Tryz.prog 53 #[.string C, .int .i64 n] W fun e w' => e = .returned (.string S) ∧ Later W w' := by
 subst hC hS
 exact repeat_is ⟨c.toArray⟩ n (by rw [size_mk]; omega) (by omega) W
/-- a request with a long key -/
structure LimC (K T : ByteArray) (r1 r2 : Req) : Prop where
 e1 : ent1 (0, r1) = [.int .i64 0, .int .i64 1, .int .i64 1, .int .u32 1, .int .u8 1, .string K, .string ⟨#[]⟩, .string ⟨#[]⟩, .int .i64 0, .int .i64 0, .int .u64 0, .int .u64 0, .int .u8 0]
 e2 : ent1 (0, r2) = [.int .i64 0, .int .i64 1, .int .i64 1, .int .u32 1, .int .u8 1, .string (K ++ ⟨#[97]⟩), .string ⟨#[]⟩, .string ⟨#[]⟩, .int .i64 0, .int .i64 0, .int .u64 0, .int .u64 0, .int .u8 0]
 k : K.size = 262131
 t : T.size = 262144
 rep : ∀ W, Calls Tryz.prog 53 #[.string ⟨#[97]⟩, .int .i64 262131] W fun e w' => e = .returned (.string K) ∧ Later W w'
 fmt : ∀ ev pv W, Laid W → EntsAt W ev [(0, r1)] → NumsAt W pv [] → Calls Tryz.prog 25 #[.agg #[ev, pv]] W fun e w' => e = .returned (.tuple #[.string T, .int .i64 0]) ∧ Later W w'
 parse : ∀ W, Laid W → Calls Tryz.prog 17 #[.string T] W (POw ([(0, r1)], []) 1 0 W)
 long : ∀ W, Laid W → Calls Tryz.prog 17 #[.string (T ++ ⟨#[10]⟩)] W (Ret (.tuple #[.agg #[.slice none 0 0, .slice none 0 0], .int .i64 0, .int .i64 3]) W)
 same : ∀ ev pv eu pu W, EntsAt W ev [(0, r1)] → NumsAt W pv [] → EntsAt W eu [(0, r1)] → NumsAt W pu [] → Calls Tryz.prog 19 #[.agg #[ev, pv], .agg #[eu, pu]] W (Ret (.bool true) W)
 big : ∀ ev pv W, Laid W → EntsAt W ev [(0, r2)] → NumsAt W pv [] → Calls Tryz.prog 25 #[.agg #[ev, pv]] W fun e w' => e = .returned (.tuple #[.string ⟨#[]⟩, .int .i64 3]) ∧ Later W w'
theorem limC (n : Nat) (hn : n = 262131) : ∃ K T r1 r2, LimC K T r1 r2 := by
 have hf : ∀ k, k ≤ n + 1 → EsFit [((0 : Int), lkR k)] := fun k hk e he => by
  obtain rfl := List.mem_singleton.1 he
  exact ⟨⟨show (-9223372036854775808 : Int) ≤ 0 by decide, show (0 : Int) ≤ 9223372036854775807 by decide⟩, lkR_fit k (by omega)⟩
 have hp := lk_parse n (by omega) (by omega)
 have hfm := lk_fmt n (by omega) (by omega)
 have hlg : parseP (lkT n ++ [10]) = .error (0, 3) := by
  have hl := lkT_len n
  rw [parseP, if_pos (by rw [List.length_append, List.length_singleton]; omega)]
 refine ⟨⟨(List.replicate n 97).toArray⟩, ⟨(lkT n).toArray⟩, lkR n, lkR (n + 1), rfl, ?_, ?_, ?_, ?_, ?_, ?_, ?_, ?_, ?_⟩
 ·have h : (⟨(List.replicate n (97 : UInt8)).toArray⟩ : ByteArray) ++ ⟨#[97]⟩ = ⟨(List.replicate (n + 1) 97).toArray⟩ := by
   apply ByteArray.ext
   apply Array.ext'
   simp [List.replicate_succ']
  rw [h]
  rfl
 ·rw [size_mk, List.length_replicate, hn]
 ·rw [size_mk, lkT_len, hn]
 ·intro W
  have h := rep_call [97] ⟨#[97]⟩ rfl n (by simp; omega) (by omega) ⟨(List.replicate n 97).toArray⟩ (by rw [repL_one]) W
  have h2 : ((n : Nat) : Int) = 262131 := by omega
  rw [h2] at h
  exact h
 ·exact fun ev pv W hW hev hpv => Format_ok hfm _ rfl (hf n (by omega)) (fun p hp => by cases hp) ev pv W hW hev hpv
 ·exact fun W hW => Parse_own hp rfl rfl _ rfl W hW
 ·exact fun W hW => Parse_bad hlg _ (by apply ByteArray.ext; simp) W hW
 ·exact fun ev pv eu pu W a1 a2 a3 a4 => Same_of hp ev pv eu pu W a1 a2 a3 a4
 ·exact fun ev pv W hW hev hpv => Format_no (lk_big (n + 1) (by omega)) (hf (n + 1) (by omega)) (fun p hp => by cases hp) (by simp) (by simp) ev pv W hW hev hpv
/-- results, read and written -/
structure LimD (Q1 Q2 K2 : ByteArray) (D0 D1 D2 : List Value) : Prop where
 d0 : D0 = doneZ.toList
 d1 : D1 = [.int .i64 0, .int .i64 0, .int .i64 0, .int .i64 0, .int .i64 0, .string K2, .slice none 0 0, .int .i64 0, .int .u32 0, .int .u8 0, .int .u64 0, .int .u64 0, .int .u64 0, .int .u64 0, .int .u64 0, .int .u64 0, .int .u64 0, .int .u64 0, .int .u64 0, .int .u64 0, .complex .f64 0 0]
 d2 : D2 = [.int .i64 0, .int .i64 0, .int .i64 0, .int .i64 1000000000, .int .i64 0, .string ⟨#[]⟩, .slice none 0 0, .int .i64 0, .int .u32 0, .int .u8 0, .int .u64 0, .int .u64 0, .int .u64 0, .int .u64 0, .int .u64 0, .int .u64 0, .int .u64 0, .int .u64 0, .int .u64 0, .int .u64 0, .complex .f64 0 0]
 rep1 : ∀ W, Calls Tryz.prog 53 #[.string ⟨#[48, 32, 48, 32, 48, 32, 48, 32, 111, 107, 10]⟩, .int .i64 4096] W fun e w' => e = .returned (.string Q1) ∧ Later W w'
 rep2 : ∀ W, Calls Tryz.prog 53 #[.string ⟨#[48, 32, 48, 32, 48, 32, 48, 32, 111, 107, 10]⟩, .int .i64 4097] W fun e w' => e = .returned (.string Q2) ∧ Later W w'
 rep3 : ∀ W, Calls Tryz.prog 53 #[.string ⟨#[97]⟩, .int .i64 262144] W fun e w' => e = .returned (.string K2) ∧ Later W w'
 parse1 : ∀ W, Laid W → Calls Tryz.prog 54 #[.string Q1] W fun e w' => Later W w' ∧ ∃ a c, e = .returned (.tuple #[.slice a 4096 c, .int .i64 0, .int .i64 0]) ∧ w'.ownsRow W.heap.size 106 21 (.slice a 4096 c) 4096 (dzC 4096)
 parse2 : ∀ W, Laid W → Calls Tryz.prog 54 #[.string Q2] W fun e w' => Later W w' ∧ e = .returned (.tuple #[.slice none 0 0, .int .i64 4096, .int .i64 3])
 fmt0 : ∀ v W, Laid W → DonesAt W v 4096 D0 → ∃ T : ByteArray, Calls Tryz.prog 55 #[v] W fun e w' => e = .returned (.tuple #[.string T, .int .i64 0]) ∧ Later W w'
 fmt1 : ∀ v W, Laid W → DonesAt W v 1 D1 → Calls Tryz.prog 55 #[v] W fun e w' => e = .returned (.tuple #[.string ⟨#[]⟩, .int .i64 3]) ∧ Later W w'
 fmt2 : ∀ v W, Laid W → DonesAt W v 1 D2 → Calls Tryz.prog 55 #[v] W fun e w' => e = .returned (.tuple #[.string ⟨#[]⟩, .int .i64 4]) ∧ Later W w'
theorem fd_of {r : Except Int (List UInt8)} {c : Int} (h : r = .error c) {v : Value} {W : World} (hc : Calls Tryz.prog 55 #[v] W (FmEnd r W)) : Calls Tryz.prog 55 #[v] W fun e w' => e = .returned (.tuple #[.string ⟨#[]⟩, .int .i64 c]) ∧ Later W w' := by
 subst h
 refine hc.mono ?_
 rintro e w' ⟨h1, rfl⟩
 exact ⟨rfl, h1⟩
theorem okT : jn [nOk] = [111, 107] := rfl
theorem limD (n : Nat) (hn : n = 262144) : ∃ Q1 Q2 K2 D0 D1 D2, LimD Q1 Q2 K2 D0 D1 D2 := by
 obtain ⟨h1, h2⟩ := dnR_long n hn
 have hok : ∀ W, Laid W → Calls Tryz.prog 57 #[.agg (ansA 0 [] nilS)] W (SAEnd [111, 107] W) := fun W hW => ShowAnswer_ok W hW
 refine ⟨⟨(repL (dzL ++ [10]) 4096).toArray⟩, ⟨(repL (dzL ++ [10]) 4097).toArray⟩, ⟨(List.replicate n 97).toArray⟩, dnC 0 [], dnC 0 (List.replicate n 97), dnC 1000000000 [], rfl, rfl, rfl, ?_, ?_, ?_, ?_, ?_, ?_, ?_, ?_⟩
 ·exact fun W => rep_call (dzL ++ [10]) _ rfl 4096 (by decide) (by decide) _ rfl W
 ·exact fun W => rep_call (dzL ++ [10]) _ rfl 4097 (by decide) (by decide) _ rfl W
 ·intro W
  have h := rep_call [97] ⟨#[97]⟩ rfl n (by simp; omega) (by omega) ⟨(List.replicate n 97).toArray⟩ (by rw [repL_one]) W
  have h2 : ((n : Nat) : Int) = 262144 := by omega
  rw [h2] at h
  exact h
 ·intro W hW
  refine (ParseDone_is 4096 (by decide) W hW).mono ?_
  rintro e w' ⟨hl, h⟩
  rw [if_neg (by decide)] at h
  obtain ⟨v, rfl, ho⟩ := h
  obtain ⟨a, c, rfl⟩ := slice_of_own ho
  exact ⟨hl, a, c, rfl, ho⟩
 ·intro W hW
  refine (ParseDone_is 4097 (by decide) W hW).mono ?_
  rintro e w' ⟨hl, h⟩
  rw [if_pos rfl] at h
  exact ⟨hl, h⟩
 ·intro v W hW hv
  refine ⟨⟨(repL (dnL 0 [111, 107]) 4096).toArray⟩, ?_⟩
  refine (FormatDone_is 0 ⟨by decide, by decide⟩ [] [111, 107] (by decide) 4096 (by decide) (by decide) (by decide) v W hW hv hok).mono ?_
  rw [dnR_ok]
  rintro e w' ⟨hl, rfl⟩
  exact ⟨rfl, hl⟩
 ·intro v W hW hv
  exact fd_of h1 (FormatDone_is 0 ⟨by decide, by decide⟩ (List.replicate n 97) _ (by omega) 1 (by decide) (by decide) (by omega) v W hW hv (fun W hW => ShowAnswer_val (List.replicate n 97) (by simp; omega) (by rw [List.length_replicate]; omega) W hW))
 ·intro v W hW hv
  exact fd_of dnR_no (FormatDone_is 1000000000 ⟨by decide, by decide⟩ [] [111, 107] (by decide) 1 (by decide) (by decide) (by decide) v W hW hv hok)
end Go.Proofs.YtkbedajbbakihaaGreatDoor

/-
 The law's limits, walked. Conditions: the listed variables read as laid.
-/
namespace Go.Proofs.YtkbedajbbakihaaGreatDoor
open Go.RowKit Go.Sort Go.Lib
set_option linter.unusedSimpArgs false
set_option linter.unusedVariables false

theorem mixedL : Tryz.prog.follows .mixedOrders = true := by kernel_rfl
theorem two_block (w : World) (a b : Value) : (w.alloc (.cells #[a, b] 45)).heap[w.heap.size]? = some (.cells #[a, b] 45 (0, 0)) := (MapKept.heap_alloc w _).1
/-- a row's own block is of the row's kind -/
theorem own_no {W : World} {base e size n b : Nat} {v : Value} {xs : List Value} {cs : Array Value} {t : TypeId} (h : W.ownsRow base e size v n xs) (hb : W.heap[b]? = some (.cells cs t (0, 0))) (hne : e ≠ t) : v.ownBlock ≠ some b := fun e2 => by
 rcases h.2 with ⟨rfl, _⟩ | ⟨g, cap, cur, rfl, _, hg, _⟩
 ·simp [Value.ownBlock] at e2
 ·simp only [Value.ownBlock, Option.some.injEq] at e2
  subst e2
  rw [hg] at hb
  injection hb with hb
  injection hb with _ h2 _
  exact hne h2
theorem own_setC {W : World} {base e size n b o : Nat} {v u : Value} {xs : List Value} {cs : Array Value} {t : TypeId} (h : W.ownsRow base e size v n xs) (hb : W.heap[b]? = some (.cells cs t (0, 0))) (hne : e ≠ t) : (W.setCell ⟨b, o, none⟩ u).ownsRow base e size v n xs :=
 h.kept (row := some b) ⟨rfl, rfl, rfl, by simp, fun k _ hk => Below.heap_setCell _ _ _ _ (fun e => hk (by simp [e]))⟩ (.inr (own_no h hb hne))
theorem ents_one {V : World} {E : Nat} {cs : Array Value} {e : Int × Req} {t : TypeId} (h : V.heap[E]? = some (.cells cs t (0, 0))) (he : ent1 e = cs.toList) : EntsAt V (.slice (some ⟨E, 0, none⟩) 1 1) [e] := by
 refine ⟨_, 1, rfl, .inr ⟨E, 0, rfl, fun i x hi => ?_⟩⟩
 cases i with
 | zero =>
  obtain rfl : e = x := by simpa using hi
  intro j u hj
  rw [he, Array.getElem?_toList] at hj
  simp only [Nat.zero_mul, Nat.zero_add]
  rw [Lib.cell_of_heap h]
  exact hj
 | succ i => simp at hi
theorem none_nm (V : World) : NumsAt V (.slice none 0 0) [] := ⟨none, 0, rfl, .inl rfl⟩
theorem dones_one {V : World} {E : Nat} {cs : Array Value} {t : TypeId} (h : V.heap[E]? = some (.cells cs t (0, 0))) : DonesAt V (.slice (some ⟨E, 0, none⟩) 1 1) 1 cs.toList := by
 refine ⟨_, 1, rfl, .inr ⟨E, 0, rfl, fun i hi => ?_⟩⟩
 obtain rfl : i = 0 := by omega
 intro j u hj
 rw [Array.getElem?_toList] at hj
 simp only [Nat.zero_mul, Nat.zero_add]
 rw [Lib.cell_of_heap h]
 exact hj
theorem dzC_at (n i j : Nat) (u : Value) (hi : i < n) (hj : doneZ.toList[j]? = some u) : (dzC n)[i * 21 + j]? = some u := by
 induction n generalizing i with
 | zero => omega
 | succ n ih =>
  have hl : doneZ.toList.length = 21 := rfl
  have hj2 : j < 21 := by rw [← hl]; exact (List.getElem?_eq_some_iff.1 hj).1
  rw [show dzC (n + 1) = doneZ.toList ++ dzC n by simp [dzC, List.replicate_succ]]
  cases i with
  | zero =>
   rw [Nat.zero_mul, Nat.zero_add, List.getElem?_append_left (by rw [hl]; exact hj2)]
   exact hj
  | succ i =>
   rw [List.getElem?_append_right (by rw [hl]; omega), hl, show (i + 1) * 21 + j - 21 = i * 21 + j by omega]
   exact ih i (by omega)
theorem dones_own {V : World} {base n : Nat} {a : Option Addr} {c : Nat} (h : V.ownsRow base 106 21 (.slice a n c) n (dzC n)) : DonesAt V (.slice a n c) n doneZ.toList := by
 rcases h.2 with ⟨hv, h0⟩ | ⟨g, cap, cur, hv, _⟩
 ·exact ⟨a, c, rfl, .inl h0⟩
 ·injection hv with h1 _ h3
  subst h1
  refine ⟨_, c, rfl, .inr ⟨g, 0, rfl, fun i hi j u hj => ?_⟩⟩
  have h4 := h.cells (g := g) rfl _ u (dzC_at n i j u hi hj)
  rw [addr_add0] at h4
  rw [Nat.zero_add]
  exact h4
set_option maxRecDepth 100000 in
set_option maxHeartbeats 16000000 in
theorem limits_is (w : World) (hw : Laid w) : Calls Tryz.prog 20 #[] w fun e w' => e = .returned (.bool true) ∧ Later w w' := by
 have HW := Lib.hid hw
 obtain ⟨es, he1, he2, he3, he4⟩ := limA
 obtain ⟨ps, f1, hp1, hp2, hp3, hp4, hp5, hp6⟩ := limB
 obtain ⟨S1, hS1⟩ : ∃ S : ByteArray, S = ⟨(repL (lmL ++ [10]) 4096).toArray⟩ := ⟨_, rfl⟩
 obtain ⟨S2, hS2⟩ : ∃ S : ByteArray, S = ⟨(repL (lmL ++ [10]) 4097).toArray⟩ := ⟨_, rfl⟩
 obtain ⟨S3, hS3⟩ : ∃ S : ByteArray, S = ⟨(repL [32, 48] 65536).toArray⟩ := ⟨_, rfl⟩
 obtain ⟨F1, hF1⟩ : ∃ F : ByteArray, F = ⟨f1.toArray⟩ := ⟨_, rfl⟩
 have HR1 := Lib.hid (fun W => show Calls Tryz.prog 53 #[.string ⟨#[48, 32, 114, 101, 109, 111, 118, 101, 32, 49, 10]⟩, .int .i64 4096] W fun e w' => e = .returned (.string S1) ∧ Later W w' from rep_call (lmL ++ [10]) _ rfl 4096 (by decide) (by decide) S1 hS1 W)
 have HR2 := Lib.hid (fun W => show Calls Tryz.prog 53 #[.string ⟨#[48, 32, 114, 101, 109, 111, 118, 101, 32, 49, 10]⟩, .int .i64 4097] W fun e w' => e = .returned (.string S2) ∧ Later W w' from rep_call (lmL ++ [10]) _ rfl 4097 (by decide) (by decide) S2 hS2 W)
 have HR3 := Lib.hid (fun W => show Calls Tryz.prog 53 #[.string ⟨#[32, 48]⟩, .int .i64 65536] W fun e w' => e = .returned (.string S3) ∧ Later W w' from rep_call [32, 48] _ rfl 65536 (by decide) (by decide) S3 hS3 W)
 have hs3 : S3.size = 131072 := by rw [hS3, size_mk, repL_len]; rfl
 have HP1 := Lib.hid (fun W h => show Calls Tryz.prog 17 #[.string S1] W (POw ((0, lmR) :: es, []) 4096 0 W) from Parse_own he2 he1 rfl S1 hS1 W h)
 have HP2 := Lib.hid (fun W h => show Calls Tryz.prog 17 #[.string S2] W (Ret (.tuple #[.agg #[.slice none 0 0, .slice none 0 0], .int .i64 4096, .int .i64 3]) W) from Parse_bad lm_over S2 hS2 W h)
 have HP3 := Lib.hid (fun W h => show Calls Tryz.prog 17 #[.string (⟨#[112, 105, 99, 107, 115]⟩ ++ S3 ++ ⟨#[10]⟩)] W (POw ([], ps) 0 65536 W) from Parse_own hp2 rfl hp1 _ (by rw [hS3]; apply ByteArray.ext; simp [picksN]) W h)
 have HP4 := Lib.hid (fun W h => show Calls Tryz.prog 17 #[.string (⟨#[112, 105, 99, 107, 115]⟩ ++ S3 ++ ⟨#[10, 112, 105, 99, 107, 115, 32, 49, 10]⟩)] W (Ret (.tuple #[.agg #[.slice none 0 0, .slice none 0 0], .int .i64 1, .int .i64 3]) W) from Parse_bad lp_over _ (by rw [hS3]; apply ByteArray.ext; simp [picksN]) W h)
 have HF1 := Lib.hid (fun ev pv W h hev hpv => Format_ok hp3 F1 hF1 (fun e he => by cases he) (fun p hp => hp6 p (List.mem_append_left _ hp)) ev pv W h hev hpv)
 have hf1 : F1.size = 155648 := by rw [hF1, size_mk]; exact hp4
 have HF2 := Lib.hid (fun ev pv W h hev hpv => Format_no hp5 (fun e he => by cases he) hp6 (by simp) (by rw [List.length_append, hp1]; decide) ev pv W h hev hpv)
 have HF3 := Lib.hid (fun ev pv W h hev hpv => Format_no he3 he4 (fun p hp => by cases hp) (by rw [List.length_append, List.length_cons, he1]; decide) (by simp) ev pv W h hev hpv)
 have HES := Lib.hid he1
 obtain ⟨K, T, r1, r2, hC⟩ := limC 262131 rfl
 have HC := Lib.hid hC
 obtain ⟨Q1, Q2, K2, D0, D1, D2, hD⟩ := limD 262144 rfl
 have HD := Lib.hid hD
 have HPS := Lib.hid hp1
 have b1 : ¬ 9223372036854775807 < 5 + S3.size := by omega
 have b2 : ¬ 9223372036854775807 < 5 + S3.size + 1 := by omega
 have b3 : ¬ 9223372036854775807 < 5 + S3.size + 9 := by omega
 have b4 : ((F1.size : Int) != 155648) = false := by rw [hf1]; rfl
 have b5 : (F1.size == 155648) = true := by rw [hf1]; rfl
 have b6 : (F1.size != 155648) = false := by rw [hf1]; rfl
 clear hC hD hw he1 he2 he3 he4 hp1 hp2 hp3 hp4 hp5 hp6 hS1 hS2 hS3 hF1 hs3 hf1
 go_enter Tryz.func20, Tryz.ntmps20
 go_wp2_with fail
 refine (HR1.out w).mono ?_
 rintro y1 w1 ⟨rfl, hl1⟩
 have HL1 := Lib.hid hl1
 clear hl1
 go_wp2_with fail
 refine (HP1.out w1 (HW.out.later HL1.out)).mono ?_
 rintro y2 w2 ⟨hl2, ao, ca, bo, cb, rfl, ho2, -⟩
 have HL2 := Lib.hid (HL1.out.trans hl2)
 have HA := Lib.hid ho2
 clear hl2 ho2
 go_upto_region 3 with fail
 obtain ⟨A0, hA0⟩ : ∃ B, w2.heap.size = B := ⟨_, rfl⟩
 obtain ⟨U2, hU2⟩ : ∃ U, w2.alloc (.cells #[.slice ao 4096 ca, .slice bo 0 cb] 45) = U := ⟨_, rfl⟩
 have hkA : U2.heap[A0]? = some (.cells #[.slice ao 4096 ca, .slice bo 0 cb] 45 (0, 0)) := by rw [← hU2, ← hA0]; exact two_block w2 _ _
 have hlU : Later w2 U2 := by rw [← hU2]; exact (Later.refl w2).alloc _
 have HU2 := Lib.hid (And.intro hkA (And.intro (HL2.out.trans hlU) (And.intro (ownsRow_later HA.out hlU) (show w.heap.size ≤ A0 by rw [← hA0]; exact HL2.out.size))))
 rw [hA0, hU2]
 clear hA0 hU2 hkA hlU HA
 go_wp2_with fail
 refine (HR2.out U2).mono ?_
 rintro y3 w3 ⟨rfl, hl3⟩
 have HL3 := Lib.hid hl3
 clear hl3
 go_wp2_with fail
 refine (HP2.out w3 (HW.out.later (HU2.out.2.1.trans HL3.out))).mono ?_
 rintro y4 w4 ⟨rfl, hl4⟩
 have HL4 := Lib.hid (HL3.out.trans hl4)
 clear hl4
 go_upto_region 4 with fail
 obtain ⟨U4, hU4⟩ : ∃ U, w4.alloc (.cells #[.slice none 0 0, .slice none 0 0] 45) = U := ⟨_, rfl⟩
 have hlU : Later U2 U4 := by rw [← hU4]; exact HL4.out.alloc _
 have hkA := (hlU.block _ (Array.getElem?_eq_some_iff.1 HU2.out.1).1).trans HU2.out.1
 have HU4 := Lib.hid (And.intro hkA (And.intro (HU2.out.2.1.trans hlU) (And.intro (ownsRow_later HU2.out.2.2.1 hlU) HU2.out.2.2.2)))
 have c0 : U4.cell? ⟨A0, 0, none⟩ = some (.slice ao 4096 ca) := by rw [Lib.cell_of_heap hkA]; rfl
 rw [hU4]
 clear hU4 hlU hkA HL3 HL4 HL2 HU2
 go_wp2_with fail
 clear c0
 refine (HR3.out U4).mono ?_
 rintro y5 w5 ⟨rfl, hl5⟩
 have HL5 := Lib.hid hl5
 clear hl5
 go_wp2_with fail
 refine (HP3.out w5 (HW.out.later (HU4.out.2.1.trans HL5.out))).mono ?_
 rintro y6 w6 ⟨hl6, bo2, cb2, po, pc, rfl, -, ho6⟩
 have HL6 := Lib.hid (And.intro hl6 ho6)
 clear hl6 ho6
 go_upto_region 7 with fail
 obtain ⟨B0, hB0⟩ : ∃ B, w6.heap.size = B := ⟨_, rfl⟩
 obtain ⟨U6, hU6⟩ : ∃ U, w6.alloc (.cells #[.slice bo2 0 cb2, .slice po 65536 pc] 45) = U := ⟨_, rfl⟩
 have hkB : U6.heap[B0]? = some (.cells #[.slice bo2 0 cb2, .slice po 65536 pc] 45 (0, 0)) := by rw [← hU6, ← hB0]; exact two_block w6 _ _
 have hlU : Later w6 U6 := by rw [← hU6]; exact (Later.refl w6).alloc _
 have HU6 := Lib.hid (And.intro hkB (And.intro (HL6.out.1.trans hlU) (And.intro (ownsRow_later HL6.out.2 hlU) (show w5.heap.size ≤ B0 by rw [← hB0]; exact HL6.out.1.size))))
 rw [hB0, hU6]
 clear hB0 hU6 hkB hlU HL6
 go_wp2_with fail
 refine (HR3.out U6).mono ?_
 rintro y7 w7 ⟨rfl, hl7⟩
 have HL7 := Lib.hid hl7
 clear hl7
 go_wp2_with fail
 refine (HP4.out w7 (HW.out.later ((HU4.out.2.1.trans HL5.out).trans (HU6.out.2.1.trans HL7.out)))).mono ?_
 rintro y8 w8 ⟨rfl, hl8⟩
 have hlU := HL7.out.trans hl8
 have hkB := (hlU.block _ (Array.getElem?_eq_some_iff.1 HU6.out.1).1).trans HU6.out.1
 have HU8 := Lib.hid (And.intro hkB (And.intro (HU6.out.2.1.trans hlU) (And.intro (ownsRow_later HU6.out.2.2.1 hlU) HU6.out.2.2.2)))
 have c1 : w8.cell? ⟨B0, 1, none⟩ = some (.slice po 65536 pc) := by rw [Lib.cell_of_heap hkB]; rfl
 have c0 : w8.cell? ⟨B0, 0, none⟩ = some (.slice bo2 0 cb2) := by rw [Lib.cell_of_heap hkB]; rfl
 clear hl8 hlU hkB HL7 HU6
 go_wp2_with fail
 refine (HF1.out _ _ w8 (HW.out.later ((HU4.out.2.1.trans HL5.out).trans HU8.out.2.1)) ⟨_, _, rfl, .inl rfl⟩ (NumsAt.of_owns (base := w5.heap.size) (by rw [HPS.out]; exact HU8.out.2.2.1))).mono ?_
 rintro y9 w9 ⟨rfl, hl9⟩
 have hkB := (hl9.block _ (Array.getElem?_eq_some_iff.1 HU8.out.1).1).trans HU8.out.1
 have HU9 := Lib.hid (And.intro hkB (And.intro (HU8.out.2.1.trans hl9) (And.intro (ownsRow_later HU8.out.2.2.1 hl9) HU8.out.2.2.2)))
 have c1 : w9.cell? ⟨B0, 1, none⟩ = some (.slice po 65536 pc) := by rw [Lib.cell_of_heap hkB]; rfl
 have hz9 := HU9.out.2.1.size
 obtain ⟨i3, hi, hz0, hz1, hz2⟩ := info_parts info3
 have HI3 := Lib.hid (And.intro hi (And.intro hz0 (And.intro hz1 hz2)))
 clear hl9 hkB HU8 c0 hi hz0 hz1 hz2
 go_wp2_with (at_builtin; refine wpList_append_own _ rfl _ _ 43 rfl w5.heap.size 3 i3 (.int .i64 0) 1 8 Tryz.underlying43 HI3.out.1 HI3.out.2.1 HI3.out.2.2.1 HI3.out.2.2.2 rfl (by decide) _ _ _ rfl (HU9.out.2.2.1.alloc _) ⟨w9.heap.size, 0, none⟩ 1 1 [.int .i64 0] rfl ?c1 ?c2 ?c2b ?c3 ?c4 ?c5 ?_)
 case c1 => rfl
 case c2 =>
  intro j u hu
  rw [addr_add0, Lib.cell_of_heap (MapKept.heap_alloc w9 _).1, ← Array.getElem?_toList]
  exact hu
 case c2b => intro u hu; rw [List.mem_singleton.1 hu]; rfl
 case c3 => unfold maxLen; omega
 case c4 => omega
 case c5 => simp; omega
 intro s9 V9 hown9 hgrow9 _
 obtain ⟨a9, c9, rfl⟩ := slice_of_own hown9
 have hlg : Later w5 V9 := later_grown (HU9.out.2.1.alloc _) (HU9.out.2.2.1.alloc _) hgrow9
 have hkB : V9.heap[B0]? = some (.cells #[.slice bo2 0 cb2, .slice po 65536 pc] 45 (0, 0)) := by
  rw [hgrow9.block B0 (by have := (Array.getElem?_eq_some_iff.1 HU9.out.1).1; simp; omega) (fun e => own_no HU9.out.2.2.1 HU9.out.1 (by decide) e.symm)]
  exact (((Later.refl w9).alloc _).block B0 (Array.getElem?_eq_some_iff.1 HU9.out.1).1).trans HU9.out.1
 have c2 : V9.cell? ⟨B0, 1, none⟩ = some (.slice po 65536 pc) := by rw [Lib.cell_of_heap hkB]; rfl
 have z2 := Lib.frozen_of_heap hkB 1
 have HV9 := Lib.hid (And.intro hkB (And.intro hlg (And.intro hown9 HU9.out.2.2.2)))
 clear hown9 hgrow9 hlg hkB c1 hz9
 go_upto_region 14 with fail
 obtain ⟨X9, hX9⟩ : ∃ X, V9.setCell ⟨B0, 1, none⟩ (.slice a9 (65536 + 1) c9) = X := ⟨_, rfl⟩
 have hkB : X9.heap[B0]? = some (.cells #[.slice bo2 0 cb2, .slice a9 (65536 + 1) c9] 45 (0, 0)) := by rw [← hX9]; exact two_set1 HV9.out.1
 have hlX : Later w5 X9 := by rw [← hX9]; exact HV9.out.2.1.setCell _ _ HV9.out.2.2.2
 have hoX : X9.ownsRow w5.heap.size 3 1 (.slice a9 (65536 + 1) c9) (65536 + 1) (ints ps ++ [.int .i64 0]) := by
  rw [← hX9]
  exact own_setC HV9.out.2.2.1 HV9.out.1 (by decide)
 have hN9 : NumsAt X9 (.slice a9 (65536 + 1) c9) (ps ++ [0]) := NumsAt.of_owns (base := w5.heap.size) (by
  rw [List.length_append, HPS.out, List.length_singleton, show ints (ps ++ [0]) = ints ps ++ [.int .i64 0] by simp [ints]]
  exact hoX)
 have c0 : X9.cell? ⟨B0, 0, none⟩ = some (.slice bo2 0 cb2) := by rw [Lib.cell_of_heap hkB]; rfl
 have c1 : X9.cell? ⟨B0, 1, none⟩ = some (.slice a9 (65536 + 1) c9) := by rw [Lib.cell_of_heap hkB]; rfl
 have HX9 := Lib.hid (And.intro hlX hN9)
 rw [hX9]
 clear hX9 hkB hlX hoX hN9 HV9 HU9 c2 z2
 go_wp2_with fail
 refine (HF2.out _ _ X9 (HW.out.later ((HU4.out.2.1.trans HL5.out).trans HX9.out.1)) ⟨_, _, rfl, .inl rfl⟩ HX9.out.2).mono ?_
 rintro y10 w10 ⟨rfl, hl10⟩
 have hlU := HL5.out.trans (HX9.out.1.trans hl10)
 have hkA := (hlU.block _ (Array.getElem?_eq_some_iff.1 HU4.out.1).1).trans HU4.out.1
 have hoA := ownsRow_later HU4.out.2.2.1 hlU
 obtain ⟨gA, rfl⟩ : ∃ g, ao = some ⟨g, 0, none⟩ := by
  rcases hoA.2 with ⟨hv, h0⟩ | ⟨g, cap, cur, hv, _⟩
  ·cases h0
  ·injection hv with hv _ _
   exact ⟨g, hv⟩
 have HA := Lib.hid (And.intro hkA (And.intro (HU4.out.2.1.trans hlU) (And.intro hoA HU4.out.2.2.2)))
 clear hl10 hlU hkA hoA HX9 HU4 HL5 c0 c1
 go_upto_region 15 with fail
 have HLA := Lib.hid HA.out.2.1
 have HRA := Lib.hid (show ∀ W', Later w10 W' → W'.rangeAt gA 0 (#[.int .i64 0, .int .i64 8, .int .i64 0, .int .u32 0, .int .u8 0, .string ⟨#[]⟩, .string ⟨#[]⟩, .string ⟨#[]⟩, .int .i64 0, .int .i64 1, .int .u64 0, .int .u64 0, .int .u8 0] : Array Value).toList from fun W' hl j u hj => by
  have h := (HA.out.2.2.1.cells (g := gA) rfl) j u (by
   show ((#[.int .i64 0, .int .i64 8, .int .i64 0, .int .u32 0, .int .u8 0, .string ⟨#[]⟩, .string ⟨#[]⟩, .string ⟨#[]⟩, .int .i64 0, .int .i64 1, .int .u64 0, .int .u64 0, .int .u8 0] : Array Value).toList ++ entC es)[j]? = some u
   rw [List.getElem?_append_left (List.getElem?_eq_some_iff.1 hj).1]
   exact hj)
  rw [addr_add0] at h
  rw [Nat.zero_add]
  exact cell_at hl h (World.block_lt_of_cell? _ _ h))
 obtain ⟨i59, hi, hz0, hz1, hz2⟩ := info_parts (show (Tryz.prog.info? 59).map (fun i => (i.zero, i.size, i.bytes)) = some (some (.agg #[.int .i64 0, .int .i64 0, .int .i64 0, .int .u32 0, .int .u8 0, .string ⟨#[]⟩, .string ⟨#[]⟩, .string ⟨#[]⟩, .int .i64 0, .int .i64 0, .int .u64 0, .int .u64 0, .int .u8 0]), 13, 120) by kernel_rfl)
 have HI59 := Lib.hid (And.intro hi (And.intro hz0 (And.intro hz1 hz2)))
 clear hi hz0 hz1 hz2
 refine wp_region_iv mixedL (fun D' a' W' => ∃ x0 x1 x2 x3 x4 x5 x6 x7 x8, a' = ⟨#[Value.bool false, Value.string { data := #[48, 32, 114, 101, 109, 111, 118, 101, 32, 49, 10] }, Value.pointer (some { block := A0, off := 0 }), Value.int IntKind.i64 0, Value.int IntKind.i64 3, Value.pointer (some { block := w4.heap.size, off := 0 }), Value.int IntKind.i64 1, Value.int IntKind.i64 3, Value.pointer (some { block := B0, off := 0 }), Value.int IntKind.i64 0, Value.string F1, undef, undef, undef, undef, undef, undef, undef, undef, undef, undef, Value.tuple #[Value.agg #[Value.slice (some { block := gA, off := 0 }) 4096 ca, Value.slice bo 0 cb], Value.int IntKind.i64 0, Value.int IntKind.i64 0], Value.string { data := #[48, 32, 114, 101, 109, 111, 118, 101, 32, 49, 10] }, Value.string S1, Value.tuple #[Value.agg #[Value.slice (some { block := gA, off := 0 }) 4096 ca, Value.slice bo 0 cb], Value.int IntKind.i64 0, Value.int IntKind.i64 0], Value.agg #[Value.slice (some { block := gA, off := 0 }) 4096 ca, Value.slice bo 0 cb], Value.int IntKind.i64 0, Value.int IntKind.i64 0, Value.tuple #[Value.agg #[Value.slice none 0 0, Value.slice none 0 0], Value.int IntKind.i64 4096, Value.int IntKind.i64 3], Value.string { data := #[48, 32, 114, 101, 109, 111, 118, 101, 32, 49, 10] }, Value.string S2, Value.tuple #[Value.agg #[Value.slice none 0 0, Value.slice none 0 0], Value.int IntKind.i64 4096, Value.int IntKind.i64 3], Value.agg #[Value.slice none 0 0, Value.slice none 0 0], Value.int IntKind.i64 4096, Value.int IntKind.i64 3, Value.pointer (some { block := A0, off := 0 }), Value.slice (some { block := gA, off := 0 }) 4096 ca, Value.int IntKind.i64 4096, Value.bool false, Value.bool false, Value.int IntKind.i64 0, Value.bool false, Value.bool false, Value.bool false, Value.int IntKind.i64 4096, Value.bool false, Value.bool false, Value.bool false, Value.int IntKind.i64 3, Value.bool false, Value.bool false, Value.tuple #[Value.agg #[Value.slice bo2 0 cb2, Value.slice po 65536 pc], Value.int IntKind.i64 0, Value.int IntKind.i64 0], Value.string S3, Value.string ({ data := #[112, 105, 99, 107, 115] } ++ S3), Value.string ({ data := #[112, 105, 99, 107, 115] } ++ S3 ++ { data := #[10] }), Value.tuple #[Value.agg #[Value.slice bo2 0 cb2, Value.slice po 65536 pc], Value.int IntKind.i64 0, Value.int IntKind.i64 0], Value.agg #[Value.slice bo2 0 cb2, Value.slice po 65536 pc], Value.int IntKind.i64 0, Value.int IntKind.i64 0, Value.tuple #[Value.agg #[Value.slice none 0 0, Value.slice none 0 0], Value.int IntKind.i64 1, Value.int IntKind.i64 3], Value.string S3, Value.string ({ data := #[112, 105, 99, 107, 115] } ++ S3), Value.string ({ data := #[112, 105, 99, 107, 115] } ++ S3 ++ { data := #[10, 112, 105, 99, 107, 115, 32, 49, 10] }), Value.tuple #[Value.agg #[Value.slice none 0 0, Value.slice none 0 0], Value.int IntKind.i64 1, Value.int IntKind.i64 3], Value.agg #[Value.slice none 0 0, Value.slice none 0 0], Value.int IntKind.i64 1, Value.int IntKind.i64 3, Value.pointer (some { block := B0, off := 1 }), Value.slice po 65536 pc, Value.int IntKind.i64 65536, Value.bool false, Value.bool false, Value.int IntKind.i64 0, Value.bool false, Value.bool false, Value.bool false, Value.int IntKind.i64 1, Value.bool false, Value.bool false, Value.bool false, Value.int IntKind.i64 3, Value.bool false, Value.bool false, Value.tuple #[Value.string F1, Value.int IntKind.i64 0], Value.agg #[Value.slice bo2 0 cb2, Value.slice po 65536 pc], Value.tuple #[Value.string F1, Value.int IntKind.i64 0], Value.string F1, Value.int IntKind.i64 0, Value.int IntKind.i64 0, Value.bool false, Value.bool false, Value.string F1, Value.int IntKind.i64 ↑F1.size, Value.bool false, Value.bool false, Value.pointer (some { block := B0, off := 1 }), Value.slice po 65536 pc, Value.slice (some { block := w9.heap.size, off := 0 }) 1 1, Value.slice a9 65537 c9, Value.pointer (some { block := B0, off := 1 }), Value.tuple #[Value.string { data := #[] }, Value.int IntKind.i64 3], Value.agg #[Value.slice bo2 0 cb2, Value.slice a9 65537 c9], Value.tuple #[Value.string { data := #[] }, Value.int IntKind.i64 3], Value.string { data := #[] }, Value.int IntKind.i64 3, x0, x1, x2, x3, x4, x5, x6, x7, x8, undef, undef, undef, undef, undef, undef, undef, undef, undef, undef, undef, undef, undef, undef, undef, undef, undef, undef, undef, undef, undef, undef, undef, undef, undef, undef, undef, undef, undef, undef, undef, undef, undef, undef, undef, undef, undef, undef, undef, undef, undef, undef, undef, undef, undef, undef, undef, undef, undef, undef, undef, undef, undef, undef, undef, undef, undef, undef, undef, undef, undef, undef, undef, undef, undef, undef, undef, undef, undef, undef, undef, undef, undef, undef, undef, undef, undef, undef, undef, undef, undef, undef, undef, undef, undef, undef, undef, undef, undef, undef, undef, undef, undef, undef, undef, undef, undef, undef, undef, undef, undef, undef, undef, undef, undef, undef, undef, undef, undef, undef, undef, undef, undef, undef, undef, undef, undef, undef, undef, undef, undef, undef, undef, undef, undef, undef, undef, undef, undef, undef, undef, undef, undef, undef, undef, undef, undef, undef, undef, undef, undef, undef, undef, undef, undef, undef, undef, undef, undef], []⟩ ∧ (D' 7 = false → Later w10 W') ∧ (D' 6 = true → D' 7 = false → ∃ Z, x6 = .slice (some ⟨Z, 0, none⟩) 1 1 ∧ W'.heap[Z]? = some (.cells #[.int .i64 0, .int .i64 8, .int .i64 0, .int .u32 0, .int .u8 0, .string ⟨#[]⟩, .string ⟨#[]⟩, .string ⟨#[]⟩, .int .i64 0, .int .i64 1, .int .u64 0, .int .u64 0, .int .u8 0] 59 (0, 0))) ∧ (D' 7 = true → D' 9 = false → ∃ a c, x7 = .slice a 4097 c ∧ Later w W' ∧ W'.heap[A0]? = some (.cells #[.slice (some ⟨gA, 0, none⟩) 4096 ca, .slice bo 0 cb] 45 (0, 0)) ∧ W'.ownsRow w1.heap.size 59 13 (.slice a 4097 c) 4097 (entC ((0, lmR) :: es) ++ (#[.int .i64 0, .int .i64 8, .int .i64 0, .int .u32 0, .int .u8 0, .string ⟨#[]⟩, .string ⟨#[]⟩, .string ⟨#[]⟩, .int .i64 0, .int .i64 1, .int .u64 0, .int .u64 0, .int .u8 0] : Array Value).toList)) ∧ (D' 9 = true → ∃ a c, Later w W' ∧ W'.heap[A0]? = some (.cells #[.slice a 4097 c, .slice bo 0 cb] 45 (0, 0)) ∧ W'.ownsRow w1.heap.size 59 13 (.slice a 4097 c) 4097 (entC ((0, lmR) :: es) ++ (#[.int .i64 0, .int .i64 8, .int .i64 0, .int .u32 0, .int .u8 0, .string ⟨#[]⟩, .string ⟨#[]⟩, .string ⟨#[]⟩, .int .i64 0, .int .i64 1, .int .u64 0, .int .u64 0, .int .u8 0] : Array Value).toList)) ∧ (D' 0 = true → x0 = .pointer (some ⟨A0, 0, none⟩)) ∧ (D' 1 = true → x1 = .slice (some ⟨gA, 0, none⟩) 4096 ca) ∧ (D' 2 = true → x2 = .pointer (some ⟨A0, 0, none⟩)) ∧ (D' 3 = true → x3 = .slice (some ⟨gA, 0, none⟩) 4096 ca) ∧ (D' 4 = true → x4 = .pointer (some ⟨gA, 0, none⟩)) ∧ (D' 5 = true → x5 = .agg #[.int .i64 0, .int .i64 8, .int .i64 0, .int .u32 0, .int .u8 0, .string ⟨#[]⟩, .string ⟨#[]⟩, .string ⟨#[]⟩, .int .i64 0, .int .i64 1, .int .u64 0, .int .u64 0, .int .u8 0]) ∧ (D' 8 = true → x8 = .pointer (some ⟨A0, 0, none⟩))) (by kernel_rfl) ?_ ?_ ?_
 ·exact ⟨_, _, _, _, _, _, _, _, _, rfl, (fun _ => (Later.refl w10).drew), (fun h => by cases h), (fun h => by cases h), (fun h => by cases h), (fun h => by cases h), (fun h => by cases h), (fun h => by cases h), (fun h => by cases h), (fun h => by cases h), (fun h => by cases h), (fun h => by cases h)⟩
 ·intro i D' a' W' hi hDi hdep hcl hI
  obtain ⟨x0, x1, x2, x3, x4, x5, x6, x7, x8, rfl, gL, gB, gS, gF, f0, f1, f2, f3, f4, f5, f8⟩ := hI
  have hi' : i = 0 ∨ i = 1 ∨ i = 2 ∨ i = 3 ∨ i = 4 ∨ i = 5 ∨ i = 6 ∨ i = 7 ∨ i = 8 ∨ i = 9 := by
   have : i < 10 := hi
   omega
  rcases hi' with rfl | rfl | rfl | rfl | rfl | rfl | rfl | rfl | rfl | rfl
  ·have m1 := hcl.no hDi (k := 1) (by decide) (by kernel_rfl)
   have m7 := hcl.no m1 (k := 7) (by decide) (by kernel_rfl)
   have m9 := hcl.no m7 (k := 9) (by decide) (by kernel_rfl)
   refine wpOp_step rfl (fun K' hK' => ?_)
   rw [if_pos (by rfl)]
   go_simp
   exact hK' _ _ ⟨_, x1, x2, x3, x4, x5, x6, x7, x8, rfl, (fun _ => gL m7), gB, (fun h => absurd (show D' 7 = true from h) (by rw [m7]; decide)), (fun h => absurd (show D' 9 = true from h) (by rw [m9]; decide)), (fun _ => rfl), f1, f2, f3, f4, f5, f8⟩
  ·have m7 := hcl.no hDi (k := 7) (by decide) (by kernel_rfl)
   have m9 := hcl.no m7 (k := 9) (by decide) (by kernel_rfl)
   have q0 := f0 (hdep 0 (by kernel_rfl))
   subst q0
   have hc : W'.cell? ⟨A0, 0, none⟩ = some (.slice (some ⟨gA, 0, none⟩) 4096 ca) := by rw [Lib.cell_of_heap (((gL m7).block A0 (Array.getElem?_eq_some_iff.1 HA.out.1).1).trans HA.out.1)]; rfl
   refine wpOp_step rfl (fun K' hK' => ?_)
   rw [if_pos (by rfl)]
   go_simp
   exact hK' _ _ ⟨_, _, x2, x3, x4, x5, x6, x7, x8, rfl, (fun _ => gL m7), gB, (fun h => absurd (show D' 7 = true from h) (by rw [m7]; decide)), (fun h => absurd (show D' 9 = true from h) (by rw [m9]; decide)), (fun _ => rfl), (fun _ => rfl), f2, f3, f4, f5, f8⟩
  ·have m3 := hcl.no hDi (k := 3) (by decide) (by kernel_rfl)
   have m4 := hcl.no m3 (k := 4) (by decide) (by kernel_rfl)
   have m5 := hcl.no m4 (k := 5) (by decide) (by kernel_rfl)
   have m6 := hcl.no m5 (k := 6) (by decide) (by kernel_rfl)
   have m7 := hcl.no m6 (k := 7) (by decide) (by kernel_rfl)
   have m9 := hcl.no m7 (k := 9) (by decide) (by kernel_rfl)
   refine wpOp_step rfl (fun K' hK' => ?_)
   rw [if_pos (by rfl)]
   go_simp
   exact hK' _ _ ⟨x0, x1, _, x3, x4, x5, x6, x7, x8, rfl, (fun _ => gL m7), (fun h => absurd (show D' 6 = true from h) (by rw [m6]; decide)), (fun h => absurd (show D' 7 = true from h) (by rw [m7]; decide)), (fun h => absurd (show D' 9 = true from h) (by rw [m9]; decide)), f0, f1, (fun _ => rfl), f3, f4, f5, f8⟩
  ·have m4 := hcl.no hDi (k := 4) (by decide) (by kernel_rfl)
   have m5 := hcl.no m4 (k := 5) (by decide) (by kernel_rfl)
   have m6 := hcl.no m5 (k := 6) (by decide) (by kernel_rfl)
   have m7 := hcl.no m6 (k := 7) (by decide) (by kernel_rfl)
   have m9 := hcl.no m7 (k := 9) (by decide) (by kernel_rfl)
   have q2 := f2 (hdep 2 (by kernel_rfl))
   subst q2
   have hc : W'.cell? ⟨A0, 0, none⟩ = some (.slice (some ⟨gA, 0, none⟩) 4096 ca) := by rw [Lib.cell_of_heap (((gL m7).block A0 (Array.getElem?_eq_some_iff.1 HA.out.1).1).trans HA.out.1)]; rfl
   refine wpOp_step rfl (fun K' hK' => ?_)
   rw [if_pos (by rfl)]
   go_simp
   exact hK' _ _ ⟨x0, x1, _, _, x4, x5, x6, x7, x8, rfl, (fun _ => gL m7), (fun h => absurd (show D' 6 = true from h) (by rw [m6]; decide)), (fun h => absurd (show D' 7 = true from h) (by rw [m7]; decide)), (fun h => absurd (show D' 9 = true from h) (by rw [m9]; decide)), f0, f1, (fun _ => rfl), (fun _ => rfl), f4, f5, f8⟩
  ·have m5 := hcl.no hDi (k := 5) (by decide) (by kernel_rfl)
   have m6 := hcl.no m5 (k := 6) (by decide) (by kernel_rfl)
   have m7 := hcl.no m6 (k := 7) (by decide) (by kernel_rfl)
   have m9 := hcl.no m7 (k := 9) (by decide) (by kernel_rfl)
   have q3 := f3 (hdep 3 (by kernel_rfl))
   subst q3
   refine wpOp_step rfl (fun K' hK' => ?_)
   rw [if_pos (by rfl)]
   go_simp
   exact hK' _ _ ⟨x0, x1, x2, _, _, x5, x6, x7, x8, rfl, (fun _ => gL m7), (fun h => absurd (show D' 6 = true from h) (by rw [m6]; decide)), (fun h => absurd (show D' 7 = true from h) (by rw [m7]; decide)), (fun h => absurd (show D' 9 = true from h) (by rw [m9]; decide)), f0, f1, f2, (fun _ => rfl), (fun _ => rfl), f5, f8⟩
  ·have m6 := hcl.no hDi (k := 6) (by decide) (by kernel_rfl)
   have m7 := hcl.no m6 (k := 7) (by decide) (by kernel_rfl)
   have m9 := hcl.no m7 (k := 9) (by decide) (by kernel_rfl)
   have q4 := f4 (hdep 4 (by kernel_rfl))
   subst q4
   have hrg := (gL m7)
   refine wpOp_step rfl (fun K' hK' => ?_)
   rw [if_pos (by rfl)]
   refine wp_load_mid 59 (.tmp 109) rfl gA 0 rfl (#[.int .i64 0, .int .i64 8, .int .i64 0, .int .u32 0, .int .u8 0, .string ⟨#[]⟩, .string ⟨#[]⟩, .string ⟨#[]⟩, .int .i64 0, .int .i64 1, .int .u64 0, .int .u64 0, .int .u8 0] : Array Value).toList _ (fun j u hj => HRA.out W' (gL m7) j u hj) Tryz.underlying59 rfl (by kernel_rfl) ?_
   exact hK' _ _ ⟨x0, x1, x2, x3, _, _, x6, x7, x8, rfl, (fun _ => gL m7), (fun h => absurd (show D' 6 = true from h) (by rw [m6]; decide)), (fun h => absurd (show D' 7 = true from h) (by rw [m7]; decide)), (fun h => absurd (show D' 9 = true from h) (by rw [m9]; decide)), f0, f1, f2, f3, (fun _ => rfl), (fun _ => rfl), f8⟩
  ·have m7 := hcl.no hDi (k := 7) (by decide) (by kernel_rfl)
   have m9 := hcl.no m7 (k := 9) (by decide) (by kernel_rfl)
   have q5 := f5 (hdep 5 (by kernel_rfl))
   subst q5
   refine wpOp_step rfl (fun K' hK' => ?_)
   rw [if_pos (by rfl)]
   go_simp
   exact hK' _ _ ⟨x0, x1, x2, x3, x4, _, _, x7, x8, rfl, (fun _ => (gL m7).alloc _), (fun _ _ => ⟨W'.heap.size, rfl, (MapKept.heap_alloc W' _).1⟩), (fun h => absurd (show D' 7 = true from h) (by rw [m7]; decide)), (fun h => absurd (show D' 9 = true from h) (by rw [m9]; decide)), f0, f1, f2, f3, f4, (fun _ => rfl), f8⟩
  ·have m9 := hcl.no hDi (k := 9) (by decide) (by kernel_rfl)
   have q1 := f1 (hdep 1 (by kernel_rfl))
   subst q1
   obtain ⟨Z, q6, hZ⟩ := gB (hdep 6 (by kernel_rfl)) hDi
   subst q6
   have hl := gL hDi
   have hz10 := hl.size
   have hA10 := (hl.block A0 (Array.getElem?_eq_some_iff.1 HA.out.1).1).trans HA.out.1
   have hO10 := ownsRow_later HA.out.2.2.1 hl
   have hw10 := HA.out.2.1.size
   refine wpOp_step rfl (fun K' hK' => ?_)
   rw [if_pos (by rfl)]
   refine wp_append_own _ (.tmp 106) (.tmp 111) 42 rfl w1.heap.size 59 i59 _ 13 120 Tryz.underlying42 HI59.out.1 HI59.out.2.1 HI59.out.2.2.1 HI59.out.2.2.2 rfl (by decide) (.slice (some ⟨gA, 0, none⟩) 4096 ca) 4096 (entC ((0, lmR) :: es)) rfl hO10 ⟨Z, 0, none⟩ 1 1 (#[.int .i64 0, .int .i64 8, .int .i64 0, .int .u32 0, .int .u8 0, .string ⟨#[]⟩, .string ⟨#[]⟩, .string ⟨#[]⟩, .int .i64 0, .int .i64 1, .int .u64 0, .int .u64 0, .int .u8 0] : Array Value).toList rfl rfl ?_ ?_ ?_ ?_ ?_ ?_
   ·intro j u hu
    rw [addr_add0, Lib.cell_of_heap hZ, ← Array.getElem?_toList]
    exact hu
   ·intro u hu
    revert u
    simp [Value.oneCell']
   ·unfold maxLen; omega
   ·omega
   ·have := hO10.lt gA rfl; omega
   intro s3 W8 hown8 hgrow _
   obtain ⟨a3, c3, rfl⟩ := slice_of_own hown8
   have hl8 : Later w W8 := later_grown (HA.out.2.1.trans hl) (ownsRow_mono hO10 HL1.out.size) hgrow
   have hA8 := (hgrow.block A0 (Array.getElem?_eq_some_iff.1 hA10).1 (fun e => own_no hO10 hA10 (by decide) e.symm)).trans hA10
   exact hK' _ _ ⟨x0, _, x2, x3, x4, x5, _, _, x8, rfl, (fun h => (updD_self h).elim), (fun _ h => (updD_self h).elim), (fun _ _ => ⟨a3, c3, rfl, hl8, hA8, hown8⟩), (fun h => absurd (show D' 9 = true from h) (by rw [m9]; decide)), f0, (fun _ => rfl), f2, f3, f4, f5, f8⟩
  ·have p7 := hdep 7 (by kernel_rfl)
   have m9 := hcl.no hDi (k := 9) (by decide) (by kernel_rfl)
   refine wpOp_step rfl (fun K' hK' => ?_)
   rw [if_pos (by rfl)]
   go_simp
   exact hK' _ _ ⟨x0, x1, x2, x3, x4, x5, x6, x7, _, rfl, (fun h => absurd (show D' 7 = false from h) (by rw [p7]; decide)), (fun _ h => absurd (show D' 7 = false from h) (by rw [p7]; decide)), gS, (fun h => absurd (show D' 9 = true from h) (by rw [m9]; decide)), f0, f1, f2, f3, f4, f5, (fun _ => rfl)⟩
  ·have p7 := hdep 7 (by kernel_rfl)
   have q8 := f8 (hdep 8 (by kernel_rfl))
   subst q8
   obtain ⟨a3, c3, q7, hl8, hA8, hown8⟩ := gS p7 hDi
   subst q7
   have t1 : W'.cell? ⟨A0, 0, none⟩ = some (.slice (some ⟨gA, 0, none⟩) 4096 ca) := by rw [Lib.cell_of_heap hA8]; rfl
   have z1 := Lib.frozen_of_heap hA8 0
   have HT := Lib.hid (And.intro (hl8.setCell ⟨A0, 0, none⟩ (.slice a3 4097 c3) HA.out.2.2.2) (And.intro (two_set0 (u := .slice a3 4097 c3) hA8) (own_setC (o := 0) (u := .slice a3 4097 c3) hown8 hA8 (by decide))))
   clear hl8 hA8 hown8
   refine wpOp_step rfl (fun K' hK' => ?_)
   rw [if_pos (by rfl)]
   go_simp
   exact hK' _ _ ⟨x0, x1, x2, x3, x4, x5, x6, _, _, rfl, (fun h => absurd (show D' 7 = false from h) (by rw [p7]; decide)), (fun _ h => absurd (show D' 7 = false from h) (by rw [p7]; decide)), (fun _ h => (updD_self h).elim), (fun _ => ⟨a3, c3, HT.out.1, HT.out.2.1, HT.out.2.2⟩), f0, f1, f2, f3, f4, f5, (fun _ => rfl)⟩
 rintro D' a' W' hD' ⟨x0, x1, x2, x3, x4, x5, x6, x7, x8, rfl, gL, gB, gS, gF, f0, f1, f2, f3, f4, f5, f8⟩
 have HF := Lib.hid (gF (hD' 9 (by decide)))
 clear gL gB gS gF hD' f0 f1 f2 f3 f4 f5 f8
 obtain ⟨aA, cA, hlF, hkF, hoF⟩ := HF.out
 obtain ⟨W15, hW15⟩ : ∃ W, W' = W := ⟨_, rfl⟩
 rw [hW15] at hlF hkF hoF ⊢
 have c0 : W15.cell? ⟨A0, 0, none⟩ = some (.slice aA 4097 cA) := by rw [Lib.cell_of_heap hkF]; rfl
 have c1 : W15.cell? ⟨A0, 1, none⟩ = some (.slice bo 0 cb) := by rw [Lib.cell_of_heap hkF]; rfl
 have hE15 : EntsAt W15 (.slice aA 4097 cA) (((0, lmR) :: es) ++ [(0, lmR)]) := EntsAt.of_owns (base := w1.heap.size) (by
  rw [List.length_append, List.length_cons, HES.out, List.length_singleton, entC_snoc]
  exact hoF)
 have HX15 := Lib.hid (And.intro hlF hE15)
 clear hW15 hlF hkF hoF hE15 HF HA HRA HI59 HLA
 go_wp2_with fail
 refine (HF3.out _ _ W15 (HW.out.later HX15.out.1) HX15.out.2 ⟨_, _, rfl, .inl rfl⟩).mono ?_
 rintro y16 w16 ⟨rfl, hl16⟩
 have HL16 := Lib.hid (HX15.out.1.trans hl16)
 clear hl16 c0 c1 HX15 HF1 HF2 HF3 HP1 HP2 HP3 HP4 HR1 HR2 HR3 b1 b2 b3 b4 b5 b6 HES HPS
 go_wp2_with fail
 refine (HC.out.rep w16).mono ?_
 rintro y17 w17 ⟨rfl, hl17⟩
 have HL17 := Lib.hid (HL16.out.trans hl17)
 clear hl17 HL16
 go_upto_region 20 with fail
 obtain ⟨E0, hE0⟩ : ∃ E, w17.heap.size = E := ⟨_, rfl⟩
 obtain ⟨U, hU⟩ : ∃ U, (w17.alloc (.cells #[.int .i64 0, .int .i64 1, .int .i64 1, .int .u32 1, .int .u8 1, .string K, .string ⟨#[]⟩, .string ⟨#[]⟩, .int .i64 0, .int .i64 0, .int .u64 0, .int .u64 0, .int .u8 0] 59)).alloc (.cells #[.slice (some ⟨w17.heap.size, 0, none⟩) 1 1, .slice none 0 0] 45) = U := ⟨_, rfl⟩
 rw [hU]
 rw [hE0] at hU ⊢
 have hlU : Later w17 U := by rw [← hU]; exact ((Later.refl w17).alloc _).alloc _
 have hkE : U.heap[E0]? = some (.cells #[.int .i64 0, .int .i64 1, .int .i64 1, .int .u32 1, .int .u8 1, .string K, .string ⟨#[]⟩, .string ⟨#[]⟩, .int .i64 0, .int .i64 0, .int .u64 0, .int .u64 0, .int .u8 0] 59 (0, 0)) := by
  rw [← hU, heap_alloc_lt _ _ _ (by simp; omega), ← hE0]
  exact (MapKept.heap_alloc w17 _).1
 have hkX : U.heap[E0 + 1]? = some (.cells #[.slice (some ⟨E0, 0, none⟩) 1 1, .slice none 0 0] 45 (0, 0)) := by
  have h := (MapKept.heap_alloc (w17.alloc (.cells #[.int .i64 0, .int .i64 1, .int .i64 1, .int .u32 1, .int .u8 1, .string K, .string ⟨#[]⟩, .string ⟨#[]⟩, .int .i64 0, .int .i64 0, .int .u64 0, .int .u64 0, .int .u8 0] 59)) (.cells #[.slice (some ⟨E0, 0, none⟩) 1 1, .slice none 0 0] 45)).1
  rw [World.size_alloc, hE0, hU] at h
  exact h
 have HU := Lib.hid (And.intro hkE (And.intro hkX (And.intro (HL17.out.trans hlU) (show w.heap.size ≤ E0 by rw [← hE0]; exact HL17.out.size))))
 have HEX := Lib.hid (show ∀ V, Later U V → EntsAt V (.slice (some ⟨E0, 0, none⟩) 1 1) [(0, r1)] from fun V hl => ents_one ((hl.block _ (Array.getElem?_eq_some_iff.1 hkE).1).trans hkE) HC.out.e1)
 have HCX := Lib.hid (show ∀ V, Later U V → V.cell? ⟨E0 + 1, 0, none⟩ = some (.slice (some ⟨E0, 0, none⟩) 1 1) ∧ V.cell? ⟨E0 + 1, 1, none⟩ = some (.slice none 0 0) from fun V hl => by
  have h := (hl.block _ (Array.getElem?_eq_some_iff.1 hkX).1).trans hkX
  exact ⟨by rw [Lib.cell_of_heap h]; rfl, by rw [Lib.cell_of_heap h]; rfl⟩)
 obtain ⟨c0, c1⟩ := HCX.out U (Later.refl U)
 clear hE0 hU hlU hkE hkX HL17
 go_wp2_with fail
 refine (HC.out.fmt _ _ U (HW.out.later HU.out.2.2.1) (HEX.out U (Later.refl U)) (none_nm U)).mono ?_
 rintro y18 w18 ⟨rfl, hl18⟩
 have HL18 := Lib.hid hl18
 clear hl18 c0 c1
 go_wp2_with fail
 refine (HC.out.parse w18 (HW.out.later (HU.out.2.2.1.trans HL18.out))).mono ?_
 rintro y19 w19 ⟨hl19, yo, yc, zo, zc, rfl, hoY, -⟩
 have HY := Lib.hid (And.intro (HL18.out.trans hl19) hoY)
 have bT : ¬ 9223372036854775807 < T.size + 1 := by rw [HC.out.t]; omega
 clear hl19 hoY HL18
 go_upto_region 22 with fail
 obtain ⟨Y0, hY0⟩ : ∃ B, w19.heap.size = B := ⟨_, rfl⟩
 obtain ⟨U9, hU9⟩ : ∃ U, w19.alloc (.cells #[.slice yo 1 yc, .slice zo 0 zc] 45) = U := ⟨_, rfl⟩
 have hkY : U9.heap[Y0]? = some (.cells #[.slice yo 1 yc, .slice zo 0 zc] 45 (0, 0)) := by rw [← hU9, ← hY0]; exact two_block w19 _ _
 have hlU : Later w19 U9 := by rw [← hU9]; exact (Later.refl w19).alloc _
 have HU9 := Lib.hid (And.intro hkY (And.intro (HY.out.1.trans hlU) (EntsAt.of_owns (es := [(0, r1)]) (ownsRow_later HY.out.2 hlU))))
 rw [hY0, hU9]
 clear hY0 hU9 hkY hlU HY
 go_wp2_with fail
 refine (HC.out.long U9 (HW.out.later (HU.out.2.2.1.trans HU9.out.2.1))).mono ?_
 rintro y20 w20 ⟨rfl, hl20⟩
 have HL20 := Lib.hid hl20
 clear hl20 bT
 go_upto_region 23 with fail
 obtain ⟨V0, hV0⟩ : ∃ U, w20.alloc (.cells #[.slice none 0 0, .slice none 0 0] 45) = U := ⟨_, rfl⟩
 have hlV : Later U9 V0 := by rw [← hV0]; exact HL20.out.alloc _
 have hkY := (hlV.block _ (Array.getElem?_eq_some_iff.1 HU9.out.1).1).trans HU9.out.1
 obtain ⟨c0, c1⟩ := HCX.out V0 (HU9.out.2.1.trans hlV)
 have c2 : V0.cell? ⟨Y0, 0, none⟩ = some (.slice yo 1 yc) := by rw [Lib.cell_of_heap hkY]; rfl
 have c3 : V0.cell? ⟨Y0, 1, none⟩ = some (.slice zo 0 zc) := by rw [Lib.cell_of_heap hkY]; rfl
 have HSM := Lib.hid (HC.out.same _ _ _ _ V0 (HEX.out V0 (HU9.out.2.1.trans hlV)) (none_nm V0) (HU9.out.2.2.later hlV) ⟨zo, zc, rfl, .inl rfl⟩)
 have HLV := Lib.hid (HU9.out.2.1.trans hlV)
 have t1 : ((T.size : Int) != 262144) = false := by rw [HC.out.t]; rfl
 have t2 : (T.size == 262144) = true := by rw [HC.out.t]; rfl
 have t3 : (T.size != 262144) = false := by rw [HC.out.t]; rfl
 rw [hV0]
 clear hV0 hlV hkY HL20 HU9
 go_wp2_with fail
 refine HSM.out.mono ?_
 rintro y21 w21 ⟨rfl, hl21⟩
 have hL := HLV.out.trans hl21
 have hkE := (hL.block _ (Array.getElem?_eq_some_iff.1 HU.out.1).1).trans HU.out.1
 have hkX := (hL.block _ (Array.getElem?_eq_some_iff.1 HU.out.2.1).1).trans HU.out.2.1
 have HW21 := Lib.hid (And.intro hkE (And.intro hkX (HU.out.2.2.1.trans hL)))
 have x0 : w21.cell? ⟨E0 + 1, 0, none⟩ = some (.slice (some ⟨E0, 0, none⟩) 1 1) := by rw [Lib.cell_of_heap hkX]; rfl
 have k5 : w21.cell? ⟨E0, 5, none⟩ = some (.string K) := by rw [Lib.cell_of_heap hkE]; rfl
 have z5 := Lib.frozen_of_heap hkE 5
 have bK : ¬ 9223372036854775807 < K.size + 1 := by rw [HC.out.k]; omega
 clear hl21 hL hkE hkX HSM HLV c0 c1 c2 c3 t1 t2 t3
 go_upto_region 26 with fail
 obtain ⟨V1, hV1⟩ : ∃ V, w21.setCell ⟨E0, 5, none⟩ (.string (K ++ ⟨#[97]⟩)) = V := ⟨_, rfl⟩
 have hkE : V1.heap[E0]? = some (.cells #[.int .i64 0, .int .i64 1, .int .i64 1, .int .u32 1, .int .u8 1, .string (K ++ ⟨#[97]⟩), .string ⟨#[]⟩, .string ⟨#[]⟩, .int .i64 0, .int .i64 0, .int .u64 0, .int .u64 0, .int .u8 0] 59 (0, 0)) := by
  rw [← hV1, setCell_eq_setRow w21 E0 5 _ 59 (0, 0) _ HW21.out.1]
  exact setRow_heap w21 E0 _ _ 59 (0, 0) HW21.out.1
 have hkX : V1.heap[E0 + 1]? = some (.cells #[.slice (some ⟨E0, 0, none⟩) 1 1, .slice none 0 0] 45 (0, 0)) := by
  rw [← hV1, Below.heap_setCell _ _ _ _ (by simp)]
  exact HW21.out.2.1
 have HV1 := Lib.hid (And.intro (show Later w V1 by rw [← hV1]; exact HW21.out.2.2.setCell _ _ HU.out.2.2.2) (ents_one hkE HC.out.e2))
 have c0 : V1.cell? ⟨E0 + 1, 0, none⟩ = some (.slice (some ⟨E0, 0, none⟩) 1 1) := by rw [Lib.cell_of_heap hkX]; rfl
 have c1 : V1.cell? ⟨E0 + 1, 1, none⟩ = some (.slice none 0 0) := by rw [Lib.cell_of_heap hkX]; rfl
 rw [hV1]
 clear hV1 hkE hkX HW21 x0 k5 z5 bK HCX HEX HU
 go_wp2_with fail
 refine (HC.out.big _ _ V1 (HW.out.later HV1.out.1) HV1.out.2 (none_nm V1)).mono ?_
 rintro y22 w22 ⟨rfl, hl22⟩
 have HL22 := Lib.hid (HV1.out.1.trans hl22)
 clear hl22 c0 c1 HV1
 go_wp2_with fail
 refine (HD.out.rep1 w22).mono ?_
 rintro y23 w23 ⟨rfl, hl23⟩
 have HL23 := Lib.hid (HL22.out.trans hl23)
 clear hl23 HL22
 go_wp2_with fail
 refine (HD.out.parse1 w23 (HW.out.later HL23.out)).mono ?_
 rintro y24 w24 ⟨hl24, aL, cL, rfl, hoL⟩
 have HL24 := Lib.hid (And.intro (HL23.out.trans hl24) hoL)
 clear hl24 hoL
 go_wp2_with fail
 refine (HD.out.rep2 w24).mono ?_
 rintro y25 w25 ⟨rfl, hl25⟩
 have HL25 := Lib.hid hl25
 clear hl25
 go_wp2_with fail
 refine (HD.out.parse2 w25 (HW.out.later (HL24.out.1.trans HL25.out))).mono ?_
 rintro y26 w26 ⟨hl26, rfl⟩
 have hoL := ownsRow_later HL24.out.2 (HL25.out.trans hl26)
 obtain ⟨gL, rfl⟩ : ∃ g, aL = some ⟨g, 0, none⟩ := by
  rcases hoL.2 with ⟨hv, h0⟩ | ⟨g, cap, cur, hv, _⟩
  ·cases h0
  ·injection hv with hv _ _
   exact ⟨g, hv⟩
 have HL26 := Lib.hid (And.intro (HL24.out.1.trans (HL25.out.trans hl26)) hoL)
 clear hl26 HL25 HL24 hoL
 go_wp2_with fail
 obtain ⟨T5, hT5⟩ := HD.out.fmt0 (.slice (some ⟨gL, 0, none⟩) 4096 cL) w26 (HW.out.later HL26.out.1) (by rw [HD.out.d0]; exact dones_own HL26.out.2)
 refine hT5.mono ?_
 rintro y27 w27 ⟨rfl, hl27⟩
 have hoL := ownsRow_later HL26.out.2 hl27
 have hlo := hoL.lt gL rfl
 have HL27 := Lib.hid (And.intro (HL26.out.1.trans hl27) hoL)
 have hwz := HL27.out.1.size
 obtain ⟨A, hA⟩ : ∃ A, doneZ = A := ⟨_, rfl⟩
 have HAE := Lib.hid hA
 have HAL := Lib.hid (show A = #[.int .i64 0, .int .i64 0, .int .i64 0, .int .i64 0, .int .i64 0, .string ⟨#[]⟩, .slice none 0 0, .int .i64 0, .int .u32 0, .int .u8 0, .int .u64 0, .int .u64 0, .int .u64 0, .int .u64 0, .int .u64 0, .int .u64 0, .int .u64 0, .int .u64 0, .int .u64 0, .int .u64 0, .complex .f64 0 0] from hA.symm)
 have HRG := Lib.hid (show w27.rangeAt gL 0 A.toList from fun j u hj => by
  have hz : 0 < 4096 := by decide
  have h := (dones_own hoL)
  obtain ⟨ao, cap, h1, h2⟩ := h
  obtain ⟨X, off, h3, h4⟩ := h2.resolve_left (by decide)
  injection h1 with q1 q2 q3
  rw [h3] at q1
  injection q1 with q1
  injection q1 with q1 q4
  have h5 := h4 0 hz j u (by rw [hA]; exact hj)
  rw [← q1, ← q4, Nat.zero_mul, Nat.zero_add] at h5
  rw [Nat.zero_add]
  exact h5)
 have HDL := Lib.hid (show (Tryz.prog.info? 106).map (·.size) = some A.toList.length by rw [← hA]; exact doneZ_info)
 obtain ⟨i0, hi, hz0, hz1, hz2⟩ := info_parts infoD
 have HI := Lib.hid (And.intro hi (And.intro hz0 (And.intro hz1 hz2)))
 clear hl27 hA hi hz0 hz1 hz2 hoL HL26
 go_wp2_with (first | (refine wpList_load_mid rfl 106 (.tmp 228) rfl gL 0 rfl A.toList _ HRG.out Tryz.underlying106 rfl HDL.out ?_; rw [Array.toArray_toList, HAL.out]) | (at_builtin; refine wpList_append_own _ rfl _ _ 101 rfl w23.heap.size 106 i0 _ 21 192 Tryz.underlying101 HI.out.1 HI.out.2.1 HI.out.2.2.1 HI.out.2.2.2 rfl (by decide) _ _ _ rfl (HL27.out.2.alloc _) ⟨w27.heap.size, 0, none⟩ 1 1 A.toList rfl ?c1 ?c2 ?c2b ?c3 ?c4 ?c5 ?_))
 case c1 => rw [HAL.out]; rfl
 case c2 =>
  intro j u hu
  rw [addr_add0, Lib.cell_of_heap (MapKept.heap_alloc w27 _).1, ← Array.getElem?_toList]
  rw [HAL.out] at hu
  exact hu
 case c2b =>
  rw [HAL.out]
  simp [Value.oneCell']
 case c3 => unfold maxLen; omega
 case c4 => omega
 case c5 => simp; omega
 intro s3 W8 hown8 hgrow _
 obtain ⟨a8, c8, rfl⟩ := slice_of_own hown8
 have HW8 := Lib.hid (show Later w W8 from later_grown (HL27.out.1.alloc _) (ownsRow_mono (HL27.out.2.alloc _) HL23.out.size) hgrow)
 clear hown8 hgrow HRG HAL HAE HI HDL HL27 hlo hwz
 go_wp2_with fail
 refine (FormatDone_big 4097 a8 c8 W8 (by decide)).mono ?_
 rintro y28 w28 ⟨hl28, rfl⟩
 have HL28 := Lib.hid (HW8.out.trans hl28)
 clear hl28 HW8
 go_wp2_with fail
 refine (HD.out.rep3 w28).mono ?_
 rintro y29 w29 ⟨rfl, hl29⟩
 have HL29 := Lib.hid (HL28.out.trans hl29)
 clear hl29 HL28
 go_wp2_with fail
 refine (HD.out.fmt1 _ (w29.alloc (.cells #[.int .i64 0, .int .i64 0, .int .i64 0, .int .i64 0, .int .i64 0, .string K2, .slice none 0 0, .int .i64 0, .int .u32 0, .int .u8 0, .int .u64 0, .int .u64 0, .int .u64 0, .int .u64 0, .int .u64 0, .int .u64 0, .int .u64 0, .int .u64 0, .int .u64 0, .int .u64 0, .complex .f64 0 0] 106)) (HW.out.later (HL29.out.alloc _)) (by rw [HD.out.d1]; exact dones_one (MapKept.heap_alloc w29 _).1)).mono ?_
 rintro y30 w30 ⟨rfl, hl30⟩
 have HL30 := Lib.hid ((HL29.out.alloc _).trans hl30)
 clear hl30 HL29
 go_wp2_with fail
 refine (HD.out.fmt2 _ (w30.alloc (.cells #[.int .i64 0, .int .i64 0, .int .i64 0, .int .i64 1000000000, .int .i64 0, .string ⟨#[]⟩, .slice none 0 0, .int .i64 0, .int .u32 0, .int .u8 0, .int .u64 0, .int .u64 0, .int .u64 0, .int .u64 0, .int .u64 0, .int .u64 0, .int .u64 0, .int .u64 0, .int .u64 0, .int .u64 0, .complex .f64 0 0] 106)) (HW.out.later (HL30.out.alloc _)) (by rw [HD.out.d2]; exact dones_one (MapKept.heap_alloc w30 _).1)).mono ?_
 rintro y31 w31 ⟨rfl, hl31⟩
 have HL31 := Lib.hid ((HL30.out.alloc _).trans hl31)
 clear hl31 HL30
 go_wp2_with fail
 go_ret
 exact ⟨rfl, HL31.out⟩
end Go.Proofs.YtkbedajbbakihaaGreatDoor
