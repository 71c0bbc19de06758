/-
 Texts of this proof, put together (Pv): each part's first words say what it holds. Conditions: as each part says.
-/
import Derived.Test.YtkbedajbbakihaaGreatDoorVa
import Derived.Test.YtkbedajbbakihaaGreatDoorYk
import Derived.Test.YtkbedajbbakihaaGreatDoorQe2
import Derived.Test.YtkbedajbbakihaaGreatDoorQe1
import Derived.Test.YtkbedajbbakihaaGreatDoorQj
import Derived.Test.YtkbedajbbakihaaGreatDoorQi
/-
 The reference's Parse, walked. Conditions: the text has at most 10^9 bytes.
-/
namespace Go.Proofs.YtkbedajbbakihaaGreatDoor
open Go.RowKit Go.Sort Go.Lib
set_option linter.unusedSimpArgs false
set_option linter.unusedVariables false

theorem spl_bounds' (l : List UInt8) : spl l ≠ [] ∧ sumL (spl l) ≤ l.length ∧ (spl l).length ≤ l.length + 1 := by
 have h1 := spl_sum l
 have h2 := spl_len l
 have h3 : l.count 32 ≤ l.length := List.count_le_length
 refine ⟨fun e => ?_, by omega, by omega⟩
 rw [e] at h2
 simp at h2
/-- what the reference's request does -/
def RefReq : Prop := ∀ (v : Value) (ws : List (List UInt8)), ws ≠ [] → ∀ w : World, SL w v ws → sumL ws ≤ 100000000 → ws.length ≤ 1000000000 → Calls Tryz.prog 40 #[v] w (RQE ws w)
/-- what has been read: st -/
structure RPI (w1 : World) (st : Scr) (ev pv : Value) (W : World) : Prop where
 later : Later w1 W
 e : W.ownsRow w1.heap.size 59 13 ev st.1.length (entC st.1)
 p : W.ownsRow w1.heap.size 3 1 pv st.2.length (ints st.2)
theorem RPI.after {w1 W W' : World} {st : Scr} {ev pv : Value} (h : RPI w1 st ev pv W) (hl : Later W W') : RPI w1 st ev pv W' := ⟨h.later.trans hl, ownsRow_later h.e hl, ownsRow_later h.p hl⟩
theorem RPI.picks {w1 W W6 : World} {st : Scr} {ev pv s3 : Value} {P : List Int} (h : RPI w1 st ev pv W) (h6 : W6.ownsRow w1.heap.size 3 1 s3 (st.2.length + P.length) (ints st.2 ++ ints P)) (hg : W.grownBy W6 pv.ownBlock) : RPI w1 (st.1, st.2 ++ P) ev s3 W6 :=
 ⟨later_grown h.later h.p hg, h.e.kept hg (own_apart h.e h.p (by decide)), by rw [List.length_append, show ints (st.2 ++ P) = ints st.2 ++ ints P by simp [ints]]; exact h6⟩
theorem RPI.entry {w1 W W6 : World} {st : Scr} {ev pv s3 : Value} {x : Int × Req} (h : RPI w1 st ev pv W) (h6 : W6.ownsRow w1.heap.size 59 13 s3 (st.1.length + 1) (entC st.1 ++ (.int .i64 x.1 :: (reqA x.2).toList))) (hg : W.grownBy W6 ev.ownBlock) : RPI w1 (st.1 ++ [x], st.2) s3 pv W6 :=
 ⟨later_grown h.later h.e hg, by rw [List.length_append, entC_snoc]; exact h6, h.p.kept hg (own_apart h.p h.e (by decide))⟩
/-- how the reference's Parse ends -/
def RPE (res : Except (Nat × Int) Scr) (w : World) (e : Ending) (w' : World) : Prop := Later w w' ∧ match res with
 | .error (n, c) => e = .returned (.tuple #[.agg #[.slice none 0 0, .slice none 0 0], .int .i64 n, .int .i64 c])
 | .ok st => ∃ a c b d, e = .returned (.tuple #[.agg #[.slice a st.1.length c, .slice b st.2.length d], .int .i64 0, .int .i64 0]) ∧ EntsAt w' (.slice a st.1.length c) st.1 ∧ NumsAt w' (.slice b st.2.length d) st.2
theorem RPE.err {res : Except (Nat × Int) Scr} {w w' : World} {n : Nat} {c : Int} (h : res = .error (n, c)) (hl : Later w w') : RPE res w (.returned (.tuple #[.agg #[.slice none 0 0, .slice none 0 0], .int .i64 (n : Int), .int .i64 c])) w' := by
 subst h
 exact ⟨hl, rfl⟩
theorem ownsRow_row {W : World} {base e size n p : Nat} {v : Value} {xs : List Value} (h : W.ownsRow base e size v n xs) (hp : p < base) (cs : Array Value) : (W.setRow p cs).ownsRow base e size v n xs := by
 refine h.kept (row := some p) ⟨rfl, rfl, rfl, by simp, fun k _ hk => setRow_other W p k cs (fun e => hk (by rw [e]))⟩ (.inr fun e => ?_)
 rcases h.2 with ⟨hv, _⟩ | ⟨g, cap, cur, e1, e2, e3, _⟩
 ·rw [hv] at e; cases e
 ·rw [e1] at e
  injection e with e
  have h5 := (h.lt g (by rw [e1]; rfl)).1
  have h6 : g = p := e
  omega
theorem RPE.ok {res : Except (Nat × Int) Scr} {w w1 W : World} {st : Scr} {ea pa : Option Addr} {n1 n2 ec pc : Nat} (h : res = .ok st) (hw : Later w w1) (hlt : w.heap.size < w1.heap.size) (hr : RPI w1 st (.slice ea n1 ec) (.slice pa n2 pc) W) (hn1 : st.1.length = n1) (hn2 : st.2.length = n2) :
  RPE res w (.returned (.tuple #[.agg #[.slice ea n1 ec, .slice pa n2 pc], .int .i64 0, .int .i64 0])) (W.setRow w.heap.size #[.slice ea n1 ec, .slice pa n2 pc]) := by
 subst h; subst hn1; subst hn2
 exact ⟨row_later (hw.trans hr.later) (Nat.le_refl _) _, ea, ec, pa, pc, rfl, EntsAt.of_owns (ownsRow_row hr.e hlt _), NumsAt.of_owns (ownsRow_row hr.p hlt _)⟩
theorem lsum_mem {x : List UInt8 × Bool} : ∀ {ls : List (List UInt8 × Bool)}, x ∈ ls → x.1.length ≤ lsum ls
 | [], h => by cases h
 | a :: t, h => by
  have e : lsum (a :: t) = a.1.length + 1 + lsum t := by simp [lsum]
  rcases List.mem_cons.1 h with rfl | h
  ·omega
  ·have := lsum_mem h
   omega
theorem runP_at_err {ls : List (List UInt8 × Bool)} {k : Nat} {x : List UInt8 × Bool} {st : Scr} {c : Int} (hx : ls[k]? = some x) (h : runP (ls.take k) ([], []) 0 = .ok st) (hs : stP st x = .error c) : runP ls ([], []) 0 = .error (k, c) := by
 have hk := (List.getElem?_eq_some_iff.1 hx).1
 have h2 := runP_stop (suf := ls.drop (k + 1)) h hs
 have e : ls.take k ++ x :: ls.drop (k + 1) = ls := by
  conv => rhs; rw [← List.take_append_drop k ls]
  rw [List.drop_eq_getElem_cons hk, (List.getElem?_eq_some_iff.1 hx).2]
 rw [e, List.length_take, Nat.min_eq_left (by omega)] at h2
 exact h2
theorem runP_at_ok {ls : List (List UInt8 × Bool)} {k : Nat} {x : List UInt8 × Bool} {st st' : Scr} (hx : ls[k]? = some x) (h : runP (ls.take k) ([], []) 0 = .ok st) (hs : stP st x = .ok st') : runP (ls.take (k + 1)) ([], []) 0 = .ok st' := by
 rw [List.take_add_one, hx]
 exact runP_next (suf := []) h hs
theorem stP_none {st : Scr} {x : List UInt8 × Bool} (h : lnP x = none) : stP st x = .error 7 := by
 unfold stP
 rw [h]
theorem stP_add {st : Scr} {x : List UInt8 × Bool} {y : List Int ⊕ (Int × Req)} (h : lnP x = some y) : stP st x = if bigP (addP st y) then .error 3 else .ok (addP st y) := by
 unfold stP
 rw [h]
theorem pickV_some {h : List UInt8} {t : List (List UInt8)} (hp : pickV h t ≠ []) : wsP (h :: t) = some (.inl (pickV h t)) := by
 unfold pickV at hp ⊢
 by_cases hh : h = picksN
 ·rw [if_pos hh] at hp ⊢
  rw [wsP, if_pos hh]
  cases ht : pksL t with
  | none => rw [ht] at hp; exact absurd rfl hp
  | some P =>
   rw [ht] at hp
   unfold pksR
   rw [if_neg (fun e => by subst e; simp [pksL] at ht; subst ht; exact hp rfl), ht]
   rfl
 ·rw [if_neg hh] at hp
  exact absurd rfl hp
theorem picks_no_num : num picksN = none := by
 cases h : num picksN with
 | none => rfl
 | some x => exact absurd ((num_iff _ _).1 h).2.symm (itoa_picks x)
theorem pksL_length : ∀ (ws : List (List UInt8)) (P : List Int), pksL ws = some P → P.length = ws.length
 | [], P, h => by cases h; rfl
 | a :: t, P, h => by
  rw [pksL] at h
  cases h1 : pk a with
  | none => rw [h1] at h; cases h
  | some v =>
   rw [h1, Option.bind_some] at h
   cases h2 : pksL t with
   | none => rw [h2] at h; cases h
   | some q =>
    rw [h2] at h
    cases h
    rw [List.length_cons, List.length_cons, pksL_length t q h2]
theorem pickV_len (h : List UInt8) (t : List (List UInt8)) : (pickV h t).length ≤ t.length := by
 unfold pickV
 split
 ·cases ht : pksL t with
  | none => exact Nat.zero_le _
  | some q =>
   have := pksL_length t q ht
   show q.length ≤ _
   omega
 ·exact Nat.zero_le _
theorem pickV_none {h : List UInt8} {t : List (List UInt8)} (hp : pickV h t = []) (hn : num h = none ∨ readR t = none) : wsP (h :: t) = none := by
 unfold pickV at hp
 rw [wsP]
 by_cases hh : h = picksN
 ·rw [if_pos hh] at hp ⊢
  unfold pksR
  cases ht : pksL t with
  | none => split <;> rfl
  | some P =>
   rw [ht] at hp
   have hP : P = [] := hp
   subst hP
   cases t with
   | nil => rfl
   | cons a t =>
    rw [pksL] at ht
    cases h1 : pk a with
    | none => rw [h1] at ht; cases ht
    | some v =>
     rw [h1, Option.bind_some] at ht
     cases h2 : pksL t with
     | none => rw [h2] at ht; cases ht
     | some q => rw [h2] at ht; cases ht
 ·rw [if_neg hh]
  rcases hn with h1 | h1
  ·rw [h1]; rfl
  ·rw [h1]
   cases num h <;> rfl
theorem num_some {h : List UInt8} {t : List (List UInt8)} {r : Req} (hx : 0 ≤ numD h) (hr : readR t = some r) : wsP (h :: t) = some (.inr (numD h, r)) := by
 have hn : num h = some (numD h) := by
  unfold numD at hx ⊢
  cases hn : num h with
  | none => rw [hn] at hx; exact absurd hx (by decide)
  | some v => rfl
 rw [wsP]
 have hh : h ≠ picksN := by rintro rfl; rw [picks_no_num] at hn; cases hn
 rw [if_neg hh, hn, hr]
 rfl
theorem num_neg {h : List UInt8} (hx : numD h < 0) : num h = none := by
 cases hn : num h with
 | none => rfl
 | some v =>
  unfold numD at hx
  rw [hn] at hx
  have := ((num_iff _ _).1 hn).1.1
  exact absurd hx (by show ¬ v < 0; omega)
theorem bigP_pk {st : Scr} {P : List Int} {n1 n2 p : Nat} (h1 : st.1.length = n1) (h2 : st.2.length = n2) (hp : P.length = p) (hb : n1 ≤ 4096) : bigP (addP st (.inl P)) = decide (65536 < n2 + p) := by
 show (decide (4096 < st.1.length) || decide (65536 < (st.2 ++ P).length)) = _
 rw [List.length_append, h1, h2, hp, decide_eq_false (p := 4096 < n1) (by omega), Bool.false_or]
theorem bigP_en {st : Scr} {x : Int × Req} {n1 n2 : Nat} (h1 : st.1.length = n1) (h2 : st.2.length = n2) (hb : n2 ≤ 65536) : bigP (addP st (.inr x)) = decide (4096 < n1 + 1) := by
 show (decide (4096 < (st.1 ++ [x]).length) || decide (65536 < st.2.length)) = _
 rw [List.length_append, h1, h2, decide_eq_false (p := 65536 < n2) (by omega), Bool.or_false]
 rfl
theorem LnE.at {l : List UInt8} {D : List (List UInt8)} {b : Bool} (h : LnE l D b) {k : Nat} (hk : k < D.length) : (lns l)[k]? = some (wrd D k, b || decide (k + 1 < D.length)) ∧ (lns l).length = D.length := by
 cases b with
 | true =>
  rw [h.yes rfl]
  simp [wrd, List.getD_eq_getElem?_getD, hk]
 | false =>
  obtain ⟨D', x, rfl, h2⟩ := h.no rfl
  rw [h2]
  rw [List.length_append, List.length_singleton] at hk
  refine ⟨?_, by simp⟩
  by_cases hk2 : k < D'.length
  ·rw [List.getElem?_append_left (by simpa using hk2)]
   simp [wrd, List.getD_eq_getElem?_getD, hk2, List.getElem?_append_left]
  ·obtain rfl : k = D'.length := by omega
   rw [List.getElem?_append_right (by simp)]
   simp [wrd, List.getD_eq_getElem?_getD]
set_option maxRecDepth 100000 in
set_option maxHeartbeats 32000000 in
theorem refParse_short (hrr : RefReq) (s : ByteArray) (hs : s.size ≤ 262144) (w : World) : Calls Tryz.prog 18 #[.string s] w (RPE (parseP s.data.toList) w) := by
 have HRR := Lib.hid hrr
 clear hrr
 have hsz : s.data.toList.length = s.size := (Lib.size_eq s).symm
 have hp : parseP s.data.toList = runP (lns s.data.toList) ([], []) 0 := by rw [parseP, if_neg (by omega)]
 obtain ⟨res, hres⟩ : ∃ res, parseP s.data.toList = res := ⟨_, rfl⟩
 rw [hres]
 rw [hp] at hres
 have hLl := fun W => refLines_is s (by omega) W
 obtain ⟨l, hl⟩ : ∃ l, s.data.toList = l := ⟨_, rfl⟩
 rw [hl] at hsz hres hLl
 have hlen : ∀ x ∈ lns l, x.1.length ≤ 262145 := fun x hx => by
  have h1 := lsum_lns l
  have h2 := lsum_mem hx
  omega
 have hi59 : (Tryz.prog.info? 59).map (fun i => (i.zero, i.size, i.bytes)) = some (some (.agg #[.int .i64 0, .int .i64 0, .int .i64 0, .int .u32 0, .int .u8 0, .string ⟨#[]⟩, .string ⟨#[]⟩, .string ⟨#[]⟩, .int .i64 0, .int .i64 0, .int .u64 0, .int .u64 0, .int .u8 0]), 13, 120) := by kernel_rfl
 have hi3 : (Tryz.prog.info? 3).map (fun i => (i.zero, i.size, i.bytes)) = some (some (.int .i64 0), 1, 8) := by kernel_rfl
 have HI59 := Lib.hid (info_parts hi59)
 have HI3 := Lib.hid (info_parts hi3)
 have hs45 : (Tryz.prog.info? 45).map (·.size) = some 2 := by kernel_rfl
 have HS0 := Lib.hid (show (Tryz.prog.info? 45).map (·.size) = some (#[Value.slice none 0 0, Value.slice none 0 0] : Array Value).size ∧ (#[Value.slice none 0 0, Value.slice none 0 0] : Array Value).all (·.oneCell') = true from ⟨hs45, by simp [Value.oneCell']⟩)
 have HS1 := Lib.hid (fun (x y : Value) (h : x.oneCell' = true) (h2 : y.oneCell' = true) => show (Tryz.prog.info? 45).map (·.size) = some (#[x, y] : Array Value).size ∧ (#[x, y] : Array Value).all (·.oneCell') = true from ⟨hs45, by simp [h, h2]⟩)
 have HRES := Lib.hid hres
 have HLL := Lib.hid hLl
 have HLEN := Lib.hid hlen
 have HSZ := Lib.hid (And.intro hsz hs)
 have d00 : decide ((262144 : Int) < (s.size : Int)) = false := decide_eq_false (by omega)
 have d01 : ¬ (262144 : Int) < (s.size : Int) := by omega
 have hk0 : (w.alloc (.cells #[.slice none 0 0, .slice none 0 0] 45)).heap[w.heap.size]? = some (.cells #[.slice none 0 0, .slice none 0 0] 45 (0, 0)) := (MapKept.heap_alloc w _).1
 have HKA := Lib.hid hk0
 clear hres hp hLl hlen hi59 hi3 hs45 hl hsz hs hk0
 go_enter Tryz.func18, Tryz.ntmps18
 go_wp2_with fail
 refine (HLL.out _).mono ?_
 rintro y1 w1 ⟨hl1, a, c, D, b, rfl, hln, ho1⟩
 have HL1 := Lib.hid (((Later.refl w).alloc _).trans hl1)
 have HK0 := Lib.hid ((hl1.block _ (Array.getElem?_eq_some_iff.1 HKA.out).1).trans HKA.out)
 have HLT := Lib.hid (Array.getElem?_eq_some_iff.1 HK0.out).1
 have hsl : SL w1 (.slice a D.length c) D := SL.of_owns ho1
 have hDn := hln.len
 obtain ⟨n, hn⟩ : ∃ n, D.length = n := ⟨_, rfl⟩
 have hnb : n ≤ 262145 := by have := HSZ.out; omega
 have hcs : ∀ W, Later w1 W → ∀ j, j < n → ∃ X off, a = some ⟨X, off, none⟩ ∧ W.cell? ⟨X, off + j, none⟩ = some (.string ⟨(wrd D j).toArray⟩) := by
  intro W hl j hj
  obtain ⟨ao, cap, he, h2⟩ := hsl
  obtain ⟨rfl, h3, rfl⟩ : a = ao ∧ D.length = D.length ∧ c = cap := by injection he; simp_all
  rcases h2 with h2 | ⟨X, off, h4, h5⟩
  ·omega
  ·exact ⟨X, off, h4, cell_at hl (h5 j (by omega)) (cell_lt (h5 j (by omega)))⟩
 have HCS := Lib.hid hcs
 have HLN := Lib.hid hln
 have HN := Lib.hid hn
 rw [hn]
 clear hl1 hln ho1 hsl hDn hn hcs HKA d00 d01
 go_wp2_with fail
 go_loopw [5, 6, 9] (fun ev pv i wr => ∃ (k : Nat) (st : Scr), k ≤ n ∧ i = .int .i64 k ∧ runP ((lns l).take k) ([], []) 0 = .ok st ∧ bigP st = false ∧ RPI w1 st ev pv wr) (fun _ _ i _ => n - (RowKit.intOf i).toNat)
 case atStart => exact ⟨0, ([], []), by omega, rfl, by rw [List.take_zero]; rfl, by decide, ⟨Later.refl w1, World.ownsRow_nil _ _ _ _, World.ownsRow_nil _ _ _ _⟩⟩
 case round =>
  obtain ⟨k, st, hk, rfl, hst, hbg, hrp⟩ := hrel
  rename World => W
  obtain ⟨ea, ec, rfl⟩ := slice_of_own hrp.e
  obtain ⟨pa, pc, rfl⟩ := slice_of_own hrp.p
  obtain ⟨n1, hn1⟩ : ∃ n, st.1.length = n := ⟨_, rfl⟩
  obtain ⟨n2, hn2⟩ : ∃ n, st.2.length = n := ⟨_, rfl⟩
  have hb12 : n1 ≤ 4096 ∧ n2 ≤ 65536 := by
   have h := hbg
   unfold bigP at h
   rw [hn1, hn2] at h
   simp at h
   omega
  rw [hn1, hn2] at hrp ⊢
  have HRP := Lib.hid hrp
  have HST := Lib.hid hst
  have HNN := Lib.hid (And.intro hn1 hn2)
  clear hrp hst hbg hn1 hn2
  by_cases hlt : k < n
  ·have d0 : decide ((k : Int) < (n : Int)) = true := decide_eq_true (by omega)
   obtain ⟨X, off, rfl, c0⟩ := HCS.out W HRP.out.later k hlt
   obtain ⟨T, hT⟩ : ∃ T : ByteArray, (⟨(wrd D k).toArray⟩ : ByteArray) = T := ⟨_, rfl⟩
   rw [hT] at c0
   have hTd : T.data.toList = wrd D k := by rw [← hT]
   obtain ⟨hat, -⟩ := HLN.out.at (k := k) (by rw [HN.out]; exact hlt)
   have hTl : T.size ≤ 262145 := by
    have h := HLEN.out _ (List.mem_of_getElem? hat)
    rw [← hT, size_mk]
    exact h
   rw [← hTd, HN.out] at hat
   obtain ⟨hh, t, hw⟩ := spl_ex T.data.toList
   have hsp := fun W => refSplit_is T (by omega) W
   obtain ⟨-, hb1, hb2⟩ := spl_bounds' T.data.toList
   have hTs : T.data.toList.length = T.size := (Lib.size_eq T).symm
   rw [hw] at hsp hb1 hb2
   obtain ⟨m, hm⟩ : ∃ m, (hh :: t).length = m := ⟨_, rfl⟩
   have hm9 : t.length + 1 = m := hm
   rw [hm] at hsp hb2
   have HSP := Lib.hid hsp
   have HB := Lib.hid (show sumL (hh :: t) ≤ 262145 ∧ (hh :: t).length = m ∧ (hh :: t).length ≤ 262146 ∧ t.length + 1 = m from ⟨by omega, hm, by omega, hm9⟩)
   have HLP := Lib.hid (show lnP (T.data.toList, true) = wsP (hh :: t) by unfold lnP; rw [if_pos rfl, hw])
   have hm2 : m ≤ 262146 := by omega
   have HX := Lib.hid hat
   clear hT hTd hat hTl hw hsp hb1 hb2 hTs hm hm9
   go_wp2_with fail
   refine (HSP.out W).mono ?_
   rintro y3 w3 ⟨hl3, a3, c3, rfl, ho3⟩
   have HRP3 := Lib.hid (HRP.out.after hl3)
   have HSL := Lib.hid (show SL w3 (.slice a3 m c3) (hh :: t) by
    have h := ho3
    rw [← HB.out.2.1] at h ⊢
    exact SL.of_owns h)
   have HMC := Lib.hid (show m ≤ c3 by
    have := HB.out.2.2.2
    rcases ho3.2 with ⟨h1, h2⟩ | ⟨g, cap, cur, e1, e2, e3, e4, e5⟩
    ·omega
    ·injection e1 with q1 q2 q3
     omega)
   have hw1 : IntKind.i64.wrap ((n : Int) - 1) = (n : Int) - 1 := IntWalk.i64_in _ (by omega)
   clear hl3 ho3 c0
   obtain ⟨bd, hbd⟩ : ∃ bd : Bool, (decide (k + 1 = n) && !b) = bd := ⟨_, rfl⟩
   have HBD := Lib.hid hbd
   have HKN := Lib.hid hlt
   clear hbd
   go_upto_region 10 with fail
   go_cut [43] from 35 to 44 (fun s43 V => s43 = .bool bd ∧ V = w3)
   case first =>
    by_cases he : k + 1 = n
    ·have d1 : ((k : Int) == (n : Int) - 1) = true := by simp; omega
     have d2 : (!b) = bd := by rw [← HBD.out, decide_eq_true he, Bool.true_and]
     clear he
     go_wp2_with fail
     go_meet
     exact ⟨by rw [← d2], rfl⟩
    ·have d1 : ((k : Int) == (n : Int) - 1) = false := by simp; omega
     have d2 : false = bd := by rw [← HBD.out, decide_eq_false he, Bool.false_and]
     have HD2 := Lib.hid d2
     clear he d2
     go_wp2_with fail
     go_meet
     exact ⟨by rw [← HD2.out], rfl⟩
   case rest =>
    obtain ⟨rfl, hw9⟩ := hcut
    have hw8 := hw9.symm
    clear hw9
    subst hw8
    cases bd with
    | true =>
     have HXF := Lib.hid (show (lns l)[k]? = some (T.data.toList, false) by
      have h := HBD.out
      rw [Bool.and_eq_true, decide_eq_true_eq] at h
      obtain ⟨h1, h2⟩ := h
      rw [HX.out, h1]
      cases b <;> simp_all)
     have HERR := Lib.hid (runP_at_err HXF.out HST.out (stP_none rfl))
     have HZ := Lib.hid ((HRP3.out.later.block _ (Array.getElem?_eq_some_iff.1 HK0.out).1).trans HK0.out)
     have hkF := setRow_heap w3 w.heap.size _ #[.slice none 0 0, .slice none 0 0] 45 (0, 0) HZ.out
     have a0 := Lib.cell_of_heap hkF 0
     have a1 := Lib.cell_of_heap hkF 1
     have HFIN := Lib.hid (RPE.err (w := w) (w' := w3.setRow w.heap.size #[.slice none 0 0, .slice none 0 0]) (show res = .error (k, 7) from HRES.out.symm.trans (HERR.out)) (row_later (HL1.out.trans HRP3.out.later) (Nat.le_refl _) _))
     clear hkF
     go_wp2_with (refine wpList_store_rowTo rfl 45 (.tmp 2) (.tmp 44) rfl rfl w.heap.size #[.slice none 0 0, .slice none 0 0] rfl rfl 45 #[.slice none 0 0, .slice none 0 0] HZ.out HS0.out.1 rfl HS0.out.2 ?_)
     generalize w3.setRow w.heap.size #[.slice none 0 0, .slice none 0 0] = W9 at a0 a1 HFIN ⊢
     refine bodyPost_ret ?_ rfl HFIN.out
     simp [results, Tryz.results18, go_sem, a0, a1]
    | false =>
     have HXT := Lib.hid (show (lns l)[k]? = some (T.data.toList, true) by
      have h := HBD.out
      have hk := HKN.out
      rw [HX.out]
      cases b with
      | true => rfl
      | false =>
       have h1 : ¬ k + 1 = n := by simpa using h
       rw [decide_eq_true (by omega)]
       rfl)
     have HPK := Lib.hid (fun W (h : SL W (.slice a3 m c3) (hh :: t)) => refPicks_is _ hh t W h (by have := HB.out.1; omega) (by have := HB.out.2.2.1; omega))
     go_wp2_with fail
     refine (HPK.out w3 HSL.out).mono ?_
     rintro y4 w4 ⟨hl4, a4, c4, rfl, ho4⟩
     have HRP4 := Lib.hid (HRP3.out.after hl4)
     have HSL4 := Lib.hid (HSL.out.later hl4)
     obtain ⟨P, hP⟩ : ∃ P, pickV hh t = P := ⟨_, rfl⟩
     rw [hP] at ho4 ⊢
     obtain ⟨p, hp⟩ : ∃ p, P.length = p := ⟨_, rfl⟩
     rw [hp] at ho4 ⊢
     have HP := Lib.hid (And.intro hP hp)
     clear hP hp hl4 HPK
     by_cases hp0 : p = 0
     ·have HP0 := Lib.hid (show pickV hh t = [] by rw [HP.out.1]; exact List.eq_nil_of_length_eq_zero (by rw [HP.out.2, hp0]))
      subst hp0
      obtain ⟨X3, off3, rfl, hc3⟩ : ∃ X3 off3, a3 = some ⟨X3, off3, none⟩ ∧ ∀ W, Later w4 W → ∀ j, j < m → W.cell? ⟨X3, off3 + j, none⟩ = some (.string ⟨(wrd (hh :: t) j).toArray⟩) := by
       obtain ⟨ao, cap, he, h2⟩ := HSL4.out
       obtain ⟨rfl, h3, rfl⟩ : a3 = ao ∧ m = (hh :: t).length ∧ c3 = cap := by injection he; simp_all
       rcases h2 with h2 | ⟨X, of, h4, h5⟩
       ·cases h2
       ·exact ⟨X, of, h4, fun W hl j hj => cell_at hl (h5 j (by omega)) (cell_lt (h5 j (by omega)))⟩
      have HC3 := Lib.hid hc3
      obtain ⟨V0, hV0⟩ : ∃ V : ByteArray, ⟨hh.toArray⟩ = V := ⟨_, rfl⟩
      have c1 : w4.cell? ⟨X3, off3, none⟩ = some (.string V0) := by
       rw [← hV0]
       exact HC3.out w4 (Later.refl w4) 0 (by have := HB.out.2.2.2; omega)
      have hm0 : (0 : Int) < (m : Int) := by have := HB.out.2.2.2; omega
      have hV1 : V0.data.toList = hh := by rw [← hV0]
      have hV2 : V0.size ≤ 262145 := by
       rw [← hV0, size_mk]
       have h1 : sumL (hh :: t) = hh.length + sumL t := by simp [sumL]
       have := HB.out.1
       omega
      have hnum := fun W => refNum_is V0 (by omega) W
      obtain ⟨x, hx⟩ : ∃ x, numD hh = x := ⟨_, rfl⟩
      rw [hV1, hx] at hnum
      have HNUM := Lib.hid hnum
      have HX0 := Lib.hid hx
      clear hc3 hV0 hV1 hV2 hnum hx ho4
      go_wp2_with fail
      refine (HNUM.out w4).mono ?_
      rintro y5 w5 ⟨rfl, hl5⟩
      have HRP5 := Lib.hid (HRP4.out.after hl5)
      have HL5 := Lib.hid hl5
      clear hl5 c1
      by_cases hx0 : x < 0
      ·have d3 : decide (x < 0) = true := decide_eq_true hx0
       have HERR := Lib.hid (runP_at_err HXT.out HST.out (stP_none (HLP.out.trans (pickV_none HP0.out (.inl (num_neg (by rw [HX0.out]; exact hx0)))))))
       have HZ := Lib.hid ((HRP5.out.later.block _ (Array.getElem?_eq_some_iff.1 HK0.out).1).trans HK0.out)
       have hkF := setRow_heap w5 w.heap.size _ #[.slice none 0 0, .slice none 0 0] 45 (0, 0) HZ.out
       have a0 := Lib.cell_of_heap hkF 0
       have a1 := Lib.cell_of_heap hkF 1
       have HFIN := Lib.hid (RPE.err (w := w) (w' := w5.setRow w.heap.size #[.slice none 0 0, .slice none 0 0]) (show res = .error (k, 7) from HRES.out.symm.trans (HERR.out)) (row_later (HL1.out.trans HRP5.out.later) (Nat.le_refl _) _))
       clear hkF
       go_wp2_with (refine wpList_store_rowTo rfl 45 (.tmp 2) (.tmp 65) rfl rfl w.heap.size #[.slice none 0 0, .slice none 0 0] rfl rfl 45 #[.slice none 0 0, .slice none 0 0] HZ.out HS0.out.1 rfl HS0.out.2 ?_)
       generalize w5.setRow w.heap.size #[.slice none 0 0, .slice none 0 0] = W9 at a0 a1 HFIN ⊢
       refine bodyPost_ret ?_ rfl HFIN.out
       simp [results, Tryz.results18, go_sem, a0, a1]
      ·have d3 : decide (x < 0) = false := decide_eq_false hx0
       by_cases hm1 : m < 2
       ·have d4 : decide ((m : Int) < 2) = true := decide_eq_true (by omega)
        have d4' : (m : Int) < 2 := by omega
        have HERR := Lib.hid (runP_at_err HXT.out HST.out (stP_none (HLP.out.trans (pickV_none HP0.out (.inr (by rw [show t = [] from List.eq_nil_of_length_eq_zero (by have := HB.out.2.2.2; omega)]; rfl))))))
        have HZ := Lib.hid ((HRP5.out.later.block _ (Array.getElem?_eq_some_iff.1 HK0.out).1).trans HK0.out)
        have hkF := setRow_heap w5 w.heap.size _ #[.slice none 0 0, .slice none 0 0] 45 (0, 0) HZ.out
        have a0 := Lib.cell_of_heap hkF 0
        have a1 := Lib.cell_of_heap hkF 1
        have HFIN := Lib.hid (RPE.err (w := w) (w' := w5.setRow w.heap.size #[.slice none 0 0, .slice none 0 0]) (show res = .error (k, 7) from HRES.out.symm.trans (HERR.out)) (row_later (HL1.out.trans HRP5.out.later) (Nat.le_refl _) _))
        clear hkF
        go_wp2_with (refine wpList_store_rowTo rfl 45 (.tmp 2) (.tmp 65) rfl rfl w.heap.size #[.slice none 0 0, .slice none 0 0] rfl rfl 45 #[.slice none 0 0, .slice none 0 0] HZ.out HS0.out.1 rfl HS0.out.2 ?_)
        generalize w5.setRow w.heap.size #[.slice none 0 0, .slice none 0 0] = W9 at a0 a1 HFIN ⊢
        refine bodyPost_ret ?_ rfl HFIN.out
        simp [results, Tryz.results18, go_sem, a0, a1]
       ·have d4 : decide ((m : Int) < 2) = false := decide_eq_false (by omega)
        have d4' : ¬ (m : Int) < 2 := by omega
        obtain ⟨m1, hm1'⟩ : ∃ m1, m - 1 = m1 := ⟨_, rfl⟩
        have HSLT := Lib.hid (show SL w5 (.slice (some ⟨X3, off3 + 1, none⟩) m1 (c3 - 1)) t from ⟨_, _, by rw [show m1 = t.length by have := HB.out.2.2.2; omega], .inr ⟨X3, off3 + 1, rfl, fun j hj => by
         have h := HC3.out w5 HL5.out (j + 1) (by have := HB.out.2.2.2; omega)
         rw [show off3 + 1 + j = off3 + (j + 1) by omega]
         exact h⟩⟩)
        have HRQ := Lib.hid (HRR.out _ t (by rintro rfl; have := HB.out.2.2.2; simp at this; omega) w5 HSLT.out (by have := HB.out.1; have h1 : sumL (hh :: t) = hh.length + sumL t := (by simp [sumL]); omega) (by have := HB.out.2.2.2; omega))
        have hsl : ∀ W : World, (Instr.slice 29 (.slice (some ⟨X3, off3, none⟩) m c3) (some (.int .i64 1)) none none).run Tryz.prog W = .ok (.slice (some ⟨X3, off3 + 1, none⟩) m1 (c3 - 1)) W := fun W => by
         have hmc := HMC.out
         have e : Go.sliced (some ⟨X3, off3, none⟩) 1 m c3 1 = .slice (some ⟨X3, off3 + 1, none⟩) m1 (c3 - 1) := by
          unfold Go.sliced
          rw [hm1', if_neg (by omega)]
          rfl
         rw [run_slice_l (P := Tryz.prog) W 29 (some ⟨X3, off3, none⟩) m c3 Tryz.underlying29 .i64 1 (by omega) (by omega), ← e]
         rfl
        clear hm1' HNUM
        go_wp2_with fail
        refine HRQ.out.mono ?_
        rintro y6 w6 ⟨hl6, hres⟩
        have HRP6 := Lib.hid (HRP5.out.after hl6)
        have HZ6 := Lib.hid (show (w6.alloc (.cells (reqA req0) 39)).heap[w6.heap.size]? = some (.cells (reqA req0) 39 (0, 0)) from (MapKept.heap_alloc w6 _).1)
        clear hl6
        rcases hres with ⟨r, hr, rfl⟩ | ⟨hr, r, rfl⟩
        ·have HI := Lib.hid (show (Tryz.prog.info? 39).map (·.size) = some (reqA r).size ∧ (Tryz.prog.info? 39).map (·.size) = some (reqA r).toList.length ∧ (reqA req0).size = (reqA r).size ∧ (reqA r).all (·.oneCell') = true from ⟨reqA_info, by rw [Array.length_toList]; exact reqA_info, rfl, reqA_one _⟩)
         obtain ⟨A, hA⟩ : ∃ A, reqA r = A := ⟨_, rfl⟩
         unfold reqV
         rw [hA] at HI ⊢
         obtain ⟨U, hU⟩ : ∃ U, w6.alloc (.cells A 39) = U := ⟨_, rfl⟩
         have HRU := Lib.hid (HRP6.out.after (show Later w6 U by rw [← hU]; exact (Later.refl w6).alloc _))
         have hkU : U.heap[w6.heap.size]? = some (.cells A 39 (0, 0)) := by rw [← hU]; exact (MapKept.heap_alloc w6 _).1
         have HRG := Lib.hid (show U.rangeAt w6.heap.size 0 A.toList by
          intro j u hj
          rw [Nat.zero_add, Lib.cell_of_heap hkU, ← Array.getElem?_toList]
          exact hj)
         clear hkU
         have HAE := Lib.hid hA
         have HSET := Lib.hid (show (w6.alloc (.cells (reqA req0) 39)).setRow w6.heap.size A = U by rw [← hU]; exact World.setRow_alloc_new _ _ _ _)
         clear hA hU
         go_upto_region 19 with (refine wpList_store_rowTo rfl 39 (.tmp 13) (.tmp 71) rfl rfl w6.heap.size A rfl rfl 39 (reqA req0) HZ6.out HI.out.1 HI.out.2.2.1 HI.out.2.2.2 ?_)
         have hs2 : (w6.alloc (.cells #[.int .i64 0, .int .i64 0, .int .u32 0, .int .u8 0, .string ⟨#[]⟩, .string ⟨#[]⟩, .string ⟨#[]⟩, .int .i64 0, .int .i64 0, .int .u64 0, .int .u64 0, .int .u8 0] 39)).setRow w6.heap.size A = U := HSET.out
         rw [hs2]
         clear hs2
         obtain ⟨Kb, hKb⟩ : ∃ K, strV r.key = .string K := ⟨_, rfl⟩
         obtain ⟨Vb, hVb⟩ : ∃ K, strV r.val = .string K := ⟨_, rfl⟩
         obtain ⟨Ob, hOb⟩ : ∃ K, strV r.old = .string K := ⟨_, rfl⟩
         have HAL := Lib.hid (show A = #[.int .i64 r.deed, .int .i64 r.ht, .int .u32 r.hg, .int .u8 r.hr, .string Kb, .string Vb, .string Ob, .int .i64 r.lim, .int .i64 r.ten, .int .u64 r.qk, .int .u64 r.qb, .int .u8 r.rts] by rw [← HAE.out, ← hKb, ← hVb, ← hOb]; rfl)
         have HEO := Lib.hid (show U.ownsRow w1.heap.size 59 13 (.slice ea n1 ec) n1 (entC st.1) by have h := HRU.out.e; rw [HNN.out.1] at h; exact h)
         have hszU := HRU.out.later.size
         obtain ⟨i0, hi, hz0, hz1, hz2⟩ := HI59.out
         clear hKb hVb hOb
         go_wp2_with (first | (refine wpList_load_mid rfl 39 (.tmp 13) rfl w6.heap.size 0 rfl A.toList _ HRG.out Tryz.underlying39 rfl HI.out.2.1 ?_; rw [Array.toArray_toList, HAL.out]) | (at_builtin; refine wpList_append_own _ rfl _ _ 42 rfl w1.heap.size 59 i0 _ 13 120 Tryz.underlying42 hi hz0 hz1 hz2 rfl (by decide) _ _ _ rfl (HEO.out.alloc _) ⟨U.heap.size, 0, none⟩ 1 1 (.int .i64 x :: A.toList) rfl ?c1 ?c2 ?c2b ?c3 ?c4 ?c5 ?_))
         case c1 => rw [HAL.out]; rfl
         case c2 =>
          intro j u hu
          rw [addr_add0, Lib.cell_of_heap (MapKept.heap_alloc U _).1, ← Array.getElem?_toList]
          rw [HAL.out] at hu
          exact hu
         case c2b =>
          rw [HAL.out]
          simp [Value.oneCell']
         case c3 => unfold maxLen; omega
         case c4 => omega
         case c5 => simp; omega
         intro s3 W8 hown8 hgrow _
         obtain ⟨a8, c8, rfl⟩ := slice_of_own hown8
         have hr8 := (HRU.out.after ((Later.refl U).alloc _)).entry (x := (x, r)) (by rw [HNN.out.1]; show World.ownsRow _ _ _ _ _ _ (entC st.1 ++ (.int .i64 x :: (reqA r).toList)); rw [HAE.out]; exact hown8) hgrow
         obtain ⟨q, hq⟩ : ∃ q, n1 + 1 = q := ⟨_, rfl⟩
         rw [hq] at hr8 ⊢
         have HR8 := Lib.hid hr8
         have HBE := Lib.hid (bigP_en (x := (x, r)) HNN.out.1 HNN.out.2 (show n2 ≤ 65536 by omega))
         have HSTP := Lib.hid (show stP st (T.data.toList, true) = if 4096 < q then .error 3 else .ok (st.1 ++ [(x, r)], st.2) by
          rw [stP_add (HLP.out.trans (num_some (by rw [HX0.out]; omega) hr)), HX0.out, HBE.out, hq]
          by_cases h : 4096 < q
          ·rw [if_pos h, decide_eq_true h, if_pos rfl]
          ·rw [if_neg h, decide_eq_false h, if_neg (by decide)]
           rfl)
         have hqb : (q : Int) = (n1 : Int) + 1 := by omega
         have HQB := Lib.hid hqb
         clear hown8 hgrow hr8 hq hqb hi hz0 hz1 hz2 hr d3 d4
         have d7 : decide ((65536 : Int) < (n2 : Int)) = false := decide_eq_false (by omega)
         have d7' : ¬ (65536 : Int) < (n2 : Int) := by omega
         have hw2 : IntKind.i64.wrap ((k : Int) + 1) = (k : Int) + 1 := IntWalk.i64_in _ (by omega)
         by_cases hq2 : 4096 < q
         ·have d6 : decide ((4096 : Int) < (q : Int)) = true := decide_eq_true (by omega)
          have d6' : (4096 : Int) < (q : Int) := by omega
          have HERR := Lib.hid (runP_at_err HXT.out HST.out (by rw [HSTP.out, if_pos hq2]))
          have HZ := Lib.hid ((HR8.out.later.block _ (Array.getElem?_eq_some_iff.1 HK0.out).1).trans HK0.out)
          have hkF := setRow_heap W8 w.heap.size _ #[.slice none 0 0, .slice none 0 0] 45 (0, 0) HZ.out
          have a0 := Lib.cell_of_heap hkF 0
          have a1 := Lib.cell_of_heap hkF 1
          have HFIN := Lib.hid (RPE.err (w := w) (w' := W8.setRow w.heap.size #[.slice none 0 0, .slice none 0 0]) (show res = .error (k, 3) from HRES.out.symm.trans (HERR.out)) (row_later (HL1.out.trans HR8.out.later) (Nat.le_refl _) _))
          clear hkF
          go_wp2_with (refine wpList_store_rowTo rfl 45 (.tmp 2) (.tmp 91) rfl rfl w.heap.size #[.slice none 0 0, .slice none 0 0] rfl rfl 45 #[.slice none 0 0, .slice none 0 0] HZ.out HS0.out.1 rfl HS0.out.2 ?_)
          generalize W8.setRow w.heap.size #[.slice none 0 0, .slice none 0 0] = W9 at a0 a1 HFIN ⊢
          refine bodyPost_ret ?_ rfl HFIN.out
          simp [results, Tryz.results18, go_sem, a0, a1]
         ·have d6 : decide ((4096 : Int) < (q : Int)) = false := decide_eq_false (by omega)
          have d6' : ¬ (4096 : Int) < (q : Int) := by omega
          have HNX := Lib.hid (show runP ((lns l).take (k + 1)) ([], []) 0 = .ok (st.1 ++ [(x, r)], st.2) from runP_at_ok HXT.out HST.out (by rw [HSTP.out, if_neg hq2]))
          have HNB := Lib.hid (show bigP (st.1 ++ [(x, r)], st.2) = false by
           have h := HBE.out
           have h2 := HQB.out
           rw [decide_eq_false (by omega)] at h
           exact h)
          go_wp2_with fail
          go_roundw
          case rel => exact ⟨k + 1, (st.1 ++ [(x, r)], st.2), by omega, by go_num, HNX.out, HNB.out, HR8.out⟩
          case measure => simp [RowKit.intOf]; omega
        ·have HI := Lib.hid (show (Tryz.prog.info? 39).map (·.size) = some (reqA r).size ∧ (Tryz.prog.info? 39).map (·.size) = some (reqA r).toList.length ∧ (reqA req0).size = (reqA r).size ∧ (reqA r).all (·.oneCell') = true from ⟨reqA_info, by rw [Array.length_toList]; exact reqA_info, rfl, reqA_one _⟩)
         obtain ⟨A, hA⟩ : ∃ A, reqA r = A := ⟨_, rfl⟩
         unfold reqV
         rw [hA] at HI ⊢
         obtain ⟨U, hU⟩ : ∃ U, w6.alloc (.cells A 39) = U := ⟨_, rfl⟩
         have HRU := Lib.hid (HRP6.out.after (show Later w6 U by rw [← hU]; exact (Later.refl w6).alloc _))
         have HSET := Lib.hid (show (w6.alloc (.cells (reqA req0) 39)).setRow w6.heap.size A = U by rw [← hU]; exact World.setRow_alloc_new _ _ _ _)
         clear hA hU
         go_upto_region 19 with (refine wpList_store_rowTo rfl 39 (.tmp 13) (.tmp 71) rfl rfl w6.heap.size A rfl rfl 39 (reqA req0) HZ6.out HI.out.1 HI.out.2.2.1 HI.out.2.2.2 ?_)
         have hs2 : (w6.alloc (.cells #[.int .i64 0, .int .i64 0, .int .u32 0, .int .u8 0, .string ⟨#[]⟩, .string ⟨#[]⟩, .string ⟨#[]⟩, .int .i64 0, .int .i64 0, .int .u64 0, .int .u64 0, .int .u8 0] 39)).setRow w6.heap.size A = U := HSET.out
         rw [hs2]
         clear hs2
         have HERR := Lib.hid (runP_at_err HXT.out HST.out (stP_none (HLP.out.trans (pickV_none HP0.out (.inr hr)))))
         clear hr
         have HZ := Lib.hid ((HRU.out.later.block _ (Array.getElem?_eq_some_iff.1 HK0.out).1).trans HK0.out)
         have hkF := setRow_heap U w.heap.size _ #[.slice none 0 0, .slice none 0 0] 45 (0, 0) HZ.out
         have a0 := Lib.cell_of_heap hkF 0
         have a1 := Lib.cell_of_heap hkF 1
         have HFIN := Lib.hid (RPE.err (w := w) (w' := U.setRow w.heap.size #[.slice none 0 0, .slice none 0 0]) (show res = .error (k, 7) from HRES.out.symm.trans (HERR.out)) (row_later (HL1.out.trans HRU.out.later) (Nat.le_refl _) _))
         clear hkF
         go_wp2_with (refine wpList_store_rowTo rfl 45 (.tmp 2) (.tmp 75) rfl rfl w.heap.size #[.slice none 0 0, .slice none 0 0] rfl rfl 45 #[.slice none 0 0, .slice none 0 0] HZ.out HS0.out.1 rfl HS0.out.2 ?_)
         generalize U.setRow w.heap.size #[.slice none 0 0, .slice none 0 0] = W9 at a0 a1 HFIN ⊢
         refine bodyPost_ret ?_ rfl HFIN.out
         simp [results, Tryz.results18, go_sem, a0, a1]
     ·have hp1 : decide ((0 : Int) < (p : Int)) = true := decide_eq_true (by omega)
      obtain ⟨g, cap, hcell⟩ : ∃ g cap, Value.slice a4 p c4 = .slice (some ⟨g, 0, none⟩) p cap ∧ ∀ j u, (ints P)[j]? = some u → w4.cell? ((⟨g, 0, none⟩ : Addr).add j) = some u := by
       rcases ho4.2 with ⟨_, h0⟩ | ⟨g, cap, cur, e1, _⟩
       ·exact absurd h0 hp0
       ·refine ⟨g, cap, e1, fun j u hj => ?_⟩
        exact ho4.cells (g := g) (by rw [e1]; rfl) j u hj
      obtain ⟨he1, hcell⟩ := hcell
      rw [he1]
      have HCE := Lib.hid hcell
      have HPN := Lib.hid (show pickV hh t ≠ [] by rw [HP.out.1]; intro e; have := HP.out.2; rw [e] at this; exact hp0 this.symm)
      have hpm : p ≤ 262147 := by
       have h1 := pickV_len hh t
       rw [HP.out.1, HP.out.2] at h1
       have := HB.out.2.2.2
       omega
      have HPO := Lib.hid (show w4.ownsRow w1.heap.size 3 1 (.slice pa n2 pc) n2 (ints st.2) by have h := HRP4.out.p; rw [HNN.out.2] at h; exact h)
      have hsz4 := HRP4.out.later.size
      obtain ⟨i0, hi, hz0, hz1, hz2⟩ := HI3.out
      clear ho4 he1 hcell
      go_wp2_with (at_builtin; refine wpList_append_own _ rfl _ _ 43 rfl w1.heap.size 3 i0 (.int .i64 0) 1 8 Tryz.underlying43 hi hz0 hz1 hz2 rfl (by decide) _ _ _ rfl HPO.out ⟨g, 0, none⟩ p cap (ints P) rfl ?c1 ?c2 ?c2b ?c3 ?c4 ?c5 ?_)
      case c1 => simp [ints, HP.out.2]
      case c2 => exact HCE.out
      case c2b => intro u hu; obtain ⟨z, _, rfl⟩ := List.mem_map.1 hu; rfl
      case c3 => unfold maxLen; omega
      case c4 => omega
      case c5 => omega
      intro s3 W6 hown6 hgrow _
      obtain ⟨a6, c6, rfl⟩ := slice_of_own hown6
      have hr6 := HRP4.out.picks (P := P) (by rw [HNN.out.2, HP.out.2]; exact hown6) hgrow
      obtain ⟨q, hq⟩ : ∃ q, n2 + p = q := ⟨_, rfl⟩
      rw [hq] at hr6 ⊢
      have HR6 := Lib.hid hr6
      have HSTP := Lib.hid (show stP st (T.data.toList, true) = if 65536 < q then .error 3 else .ok (st.1, st.2 ++ P) by
       rw [stP_add (HLP.out.trans (pickV_some HPN.out)), bigP_pk HNN.out.1 HNN.out.2 (show (pickV hh t).length = p by rw [HP.out.1]; exact HP.out.2) (by omega), HP.out.1, hq]
       by_cases h : 65536 < q
       ·rw [if_pos h, decide_eq_true h, if_pos rfl]
       ·rw [if_neg h, decide_eq_false h, if_neg (by decide)]
        rfl)
      have hqb : (q : Int) = (n2 : Int) + (p : Int) := by omega
      have HQB := Lib.hid hqb
      clear hown6 hgrow hr6 hq hqb hi hz0 hz1 hz2 hp1
      have d5 : decide ((4096 : Int) < (n1 : Int)) = false := decide_eq_false (by omega)
      have d5' : ¬ (4096 : Int) < (n1 : Int) := by omega
      have hw2 : IntKind.i64.wrap ((k : Int) + 1) = (k : Int) + 1 := IntWalk.i64_in _ (by omega)
      by_cases hq2 : 65536 < q
      ·have d6 : decide ((65536 : Int) < (q : Int)) = true := decide_eq_true (by omega)
       have d6' : (65536 : Int) < (q : Int) := by omega
       have HERR := Lib.hid (runP_at_err HXT.out HST.out (by rw [HSTP.out, if_pos hq2]))
       have HZ := Lib.hid ((HR6.out.later.block _ (Array.getElem?_eq_some_iff.1 HK0.out).1).trans HK0.out)
       have hkF := setRow_heap W6 w.heap.size _ #[.slice none 0 0, .slice none 0 0] 45 (0, 0) HZ.out
       have a0 := Lib.cell_of_heap hkF 0
       have a1 := Lib.cell_of_heap hkF 1
       have HFIN := Lib.hid (RPE.err (w := w) (w' := W6.setRow w.heap.size #[.slice none 0 0, .slice none 0 0]) (show res = .error (k, 3) from HRES.out.symm.trans (HERR.out)) (row_later (HL1.out.trans HR6.out.later) (Nat.le_refl _) _))
       clear hkF
       go_wp2_with (refine wpList_store_rowTo rfl 45 (.tmp 2) (.tmp 91) rfl rfl w.heap.size #[.slice none 0 0, .slice none 0 0] rfl rfl 45 #[.slice none 0 0, .slice none 0 0] HZ.out HS0.out.1 rfl HS0.out.2 ?_)
       generalize W6.setRow w.heap.size #[.slice none 0 0, .slice none 0 0] = W9 at a0 a1 HFIN ⊢
       refine bodyPost_ret ?_ rfl HFIN.out
       simp [results, Tryz.results18, go_sem, a0, a1]
      ·have d6 : decide ((65536 : Int) < (q : Int)) = false := decide_eq_false (by omega)
       have d6' : ¬ (65536 : Int) < (q : Int) := by omega
       have HNX := Lib.hid (show runP ((lns l).take (k + 1)) ([], []) 0 = .ok (st.1, st.2 ++ P) from runP_at_ok HXT.out HST.out (by rw [HSTP.out, if_neg hq2]))
       have HNB := Lib.hid (show bigP (st.1, st.2 ++ P) = false by
        have h := bigP_pk HNN.out.1 HNN.out.2 HP.out.2 (show n1 ≤ 4096 by omega)
        have h2 := HQB.out
        rw [decide_eq_false (by omega)] at h
        exact h)
       go_wp2_with fail
       go_roundw
       case rel => exact ⟨k + 1, (st.1, st.2 ++ P), by omega, by go_num, HNX.out, HNB.out, HR6.out⟩
       case measure => simp [RowKit.intOf]; omega
  ·have d0 : decide ((k : Int) < (n : Int)) = false := decide_eq_false (by omega)
   have HEND := Lib.hid (show res = .ok st by
    have h := HST.out
    rw [List.take_of_length_le (by
     have h1 : (lns l).length = n := by
      by_cases hn0 : 0 < n
      ·have h2 := (HLN.out.at (k := 0) (by rw [HN.out]; exact hn0)).2
       rw [h2, HN.out]
      ·have h2 := HLN.out
       have h3 : D = [] := List.eq_nil_of_length_eq_zero (by rw [HN.out]; omega)
       rw [h3] at h2
       cases b with
       | true => rw [h2.yes rfl]; show 0 = n; omega
       | false =>
        obtain ⟨D', x, h4, -⟩ := h2.no rfl
        exact absurd (congrArg List.length h4) (by simp)
     omega)] at h
    rw [← HRES.out]
    exact h)
   have HZ := Lib.hid ((HRP.out.later.block _ (Array.getElem?_eq_some_iff.1 HK0.out).1).trans HK0.out)
   have hkF := setRow_heap W w.heap.size _ #[.slice ea n1 ec, .slice pa n2 pc] 45 (0, 0) HZ.out
   have a0 := Lib.cell_of_heap hkF 0
   have a1 := Lib.cell_of_heap hkF 1
   have HFIN := Lib.hid (RPE.ok HEND.out HL1.out HLT.out HRP.out HNN.out.1 HNN.out.2)
   have HS2 := Lib.hid (HS1.out (.slice ea n1 ec) (.slice pa n2 pc) rfl rfl)
   clear hkF
   go_wp2_with (refine wpList_store_rowTo rfl 45 (.tmp 2) (.tmp 95) rfl rfl w.heap.size #[.slice ea n1 ec, .slice pa n2 pc] rfl rfl 45 #[.slice none 0 0, .slice none 0 0] HZ.out HS2.out.1 rfl HS2.out.2 ?_)
   generalize W.setRow w.heap.size #[.slice ea n1 ec, .slice pa n2 pc] = W9 at a0 a1 HFIN ⊢
   refine bodyPost_ret ?_ rfl HFIN.out
   simp [results, Tryz.results18, go_sem, a0, a1]
set_option maxRecDepth 100000 in
set_option maxHeartbeats 4000000 in
theorem refParse_long (s : ByteArray) (hs : 262144 < s.size) (w : World) : Calls Tryz.prog 18 #[.string s] w (RPE (parseP s.data.toList) w) := by
 have hsz : s.data.toList.length = s.size := (Lib.size_eq s).symm
 have hp : parseP s.data.toList = .error (0, 3) := by rw [parseP, if_pos (by omega)]
 rw [hp]
 obtain ⟨k, hk⟩ : ∃ k, s.size = k := ⟨_, rfl⟩
 have hk1 : decide ((262144 : Int) < (k : Int)) = true := decide_eq_true (by omega)
 have hk2 : (262144 : Int) < (k : Int) := by omega
 have HFIN := Lib.hid (RPE.err (res := .error (0, 3)) rfl (show Later w (w.alloc (.cells #[.slice none 0 0, .slice none 0 0] 45)) from (Later.refl w).alloc _))
 have hkF : (w.alloc (.cells #[.slice none 0 0, .slice none 0 0] 45)).heap[w.heap.size]? = some (.cells #[.slice none 0 0, .slice none 0 0] 45 (0, 0)) := (MapKept.heap_alloc w _).1
 have a0 := Lib.cell_of_heap hkF 0
 have a1 := Lib.cell_of_heap hkF 1
 clear hsz hs hp hkF
 go_enter Tryz.func18, Tryz.ntmps18
 go_wp2_with fail
 generalize w.alloc (.cells #[.slice none 0 0, .slice none 0 0] 45) = W9 at a0 a1 HFIN ⊢
 refine bodyPost_ret ?_ rfl HFIN.out
 simp [results, Tryz.results18, go_sem, a0, a1]
theorem refParse_of (hrr : RefReq) (s : ByteArray) (w : World) : Calls Tryz.prog 18 #[.string s] w (RPE (parseP s.data.toList) w) := by
 by_cases h : s.size ≤ 262144
 ·exact refParse_short hrr s h w
 ·exact refParse_long s (by omega) w
end Go.Proofs.YtkbedajbbakihaaGreatDoor
