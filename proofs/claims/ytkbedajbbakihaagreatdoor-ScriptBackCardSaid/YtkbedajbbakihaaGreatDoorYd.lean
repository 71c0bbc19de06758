/-
 Texts of this proof, put together (Fi, Se, PzZ): each part's first words say what it holds. Conditions: as each part says.
-/
import Derived.Test.YtkbedajbbakihaaGreatDoorQe1
import Derived.Test.YtkbedajbbakihaaGreatDoorQj
import Derived.Test.YtkbedajbbakihaaGreatDoorQg
import Derived.Test.YtkbedajbbakihaaGreatDoorQb
import Derived.Test.YtkbedajbbakihaaGreatDoorQi
import Derived.Test.YtkbedajbbakihaaGreatDoorYb
/-
 Plain: what is read off a text fits. Conditions: none.
-/
namespace Go.Proofs.YtkbedajbbakihaaGreatDoor
open Go.Lib
set_option linter.unusedSimpArgs false
set_option linter.unusedVariables false

/-- a request whose texts have at most N letters -/
structure FitN (N : Nat) (r : Req) : Prop extends Req.ok r where
 hr : 0 ≤ r.hr ∧ r.hr ≤ 255
 rts : 0 ≤ r.rts ∧ r.rts ≤ 255
 ten : -9223372036854775808 ≤ r.ten ∧ r.ten ≤ 9223372036854775807
 ht : -9223372036854775808 ≤ r.ht ∧ r.ht ≤ 9223372036854775807
 deed : -9223372036854775808 ≤ r.deed ∧ r.deed ≤ 9223372036854775807
 len : r.key.length + r.val.length + r.old.length ≤ N
theorem FitN.fit {N : Nat} {r : Req} (h : FitN N r) (hN : N ≤ 5000000) : r.fit := ⟨⟨h.hg, h.qk, h.qb, h.lim⟩, h.hr, h.rts, h.ten, h.ht, h.deed, Nat.le_trans h.len hN⟩
theorem wordB_pos (c : UInt8) : 1 ≤ (wordB c).length := by unfold wordB; split <;> simp
theorem word_ge (l : List UInt8) : l.length ≤ (word l).length := by
 unfold word
 split
 ·rename_i h; rw [h]; simp
 ·have : ∀ m : List UInt8, m.length ≤ (m.flatMap wordB).length := by
   intro m
   induction m with
   | nil => simp
   | cons c m ih => rw [List.flatMap_cons, List.length_append, List.length_cons]; have := wordB_pos c; omega
  exact this l
theorem unword_len {w x : List UInt8} (h : unword w = some x) : x.length ≤ w.length := by
 have := word_ge x
 rw [word_of_unword h] at this
 exact this
theorem step_fit (f : Fld) (w : List UInt8) (r s : Req) (N : Nat) (h : stepF f w r = some s) (hr : FitN N r) : FitN (N + w.length) s := by
 obtain ⟨⟨a1, a2, a3, a4⟩, a5, a6, a7, a8, a9, a10⟩ := hr
 have okr : ∀ (t g : Nat) (z : Int), okH t g z = true → (-9223372036854775808 ≤ (t : Int) ∧ (t : Int) ≤ 9223372036854775807) ∧ (0 ≤ z ∧ z ≤ 255) := fun t g z ho => by
  have := (okH_iff _ _ _).1 ho
  omega
 cases f with
 | hdl =>
  simp only [stepF] at h
  cases hx : rdH w with
  | none => rw [hx] at h; cases h
  | some x =>
   rw [hx] at h
   cases h
   obtain ⟨t, g, h1, h2, h3, h4, h5⟩ := (rdH_iff w x).1 hx
   have h6 := okr t g _ h3
   exact ⟨⟨by show 0 ≤ x.2.1 ∧ x.2.1 ≤ _; omega, a2, a3, a4⟩, h6.2, a6, a7, by show _ ≤ x.1 ∧ x.1 ≤ _; rw [h1]; exact h6.1, a9, by show r.key.length + r.val.length + r.old.length ≤ _; omega⟩
 | key =>
  simp only [stepF] at h
  cases hx : unword w with
  | none => rw [hx] at h; cases h
  | some x =>
   rw [hx] at h; cases h
   have := unword_len hx
   exact ⟨⟨a1, a2, a3, a4⟩, a5, a6, a7, a8, a9, by show x.length + r.val.length + r.old.length ≤ _; omega⟩
 | val =>
  simp only [stepF] at h
  cases hx : unword w with
  | none => rw [hx] at h; cases h
  | some x =>
   rw [hx] at h; cases h
   have := unword_len hx
   exact ⟨⟨a1, a2, a3, a4⟩, a5, a6, a7, a8, a9, by show r.key.length + x.length + r.old.length ≤ _; omega⟩
 | old =>
  simp only [stepF] at h
  cases hx : unword w with
  | none => rw [hx] at h; cases h
  | some x =>
   rw [hx] at h; cases h
   have := unword_len hx
   exact ⟨⟨a1, a2, a3, a4⟩, a5, a6, a7, a8, a9, by show r.key.length + r.val.length + x.length ≤ _; omega⟩
 | lim =>
  simp only [stepF] at h
  cases hx : num w with
  | none => rw [hx] at h; cases h
  | some x =>
   rw [hx] at h; cases h
   have := ((num_iff w x).1 hx).1
   exact ⟨⟨a1, a2, a3, by show _ ≤ x ∧ x ≤ _; omega⟩, a5, a6, a7, a8, a9, by show r.key.length + r.val.length + r.old.length ≤ _; omega⟩
 | ten =>
  simp only [stepF] at h
  cases hx : num w with
  | none => rw [hx] at h; cases h
  | some x =>
   rw [hx] at h; cases h
   have := ((num_iff w x).1 hx).1
   exact ⟨⟨a1, a2, a3, a4⟩, a5, a6, by show _ ≤ x ∧ x ≤ _; omega, a8, a9, by show r.key.length + r.val.length + r.old.length ≤ _; omega⟩
 | qk =>
  simp only [stepF] at h
  cases hx : lrg w with
  | none => rw [hx] at h; cases h
  | some x =>
   rw [hx] at h; cases h
   have := ((lrg_iff w x).1 hx).1
   exact ⟨⟨a1, by show 0 ≤ (x : Int) ∧ (x : Int) ≤ _; omega, a3, a4⟩, a5, a6, a7, a8, a9, by show r.key.length + r.val.length + r.old.length ≤ _; omega⟩
 | qb =>
  simp only [stepF] at h
  cases hx : lrg w with
  | none => rw [hx] at h; cases h
  | some x =>
   rw [hx] at h; cases h
   have := ((lrg_iff w x).1 hx).1
   exact ⟨⟨a1, a2, by show 0 ≤ (x : Int) ∧ (x : Int) ≤ _; omega, a4⟩, a5, a6, a7, a8, a9, by show r.key.length + r.val.length + r.old.length ≤ _; omega⟩
 | rts =>
  simp only [stepF] at h
  cases hx : rdH (49 :: 46 :: 49 :: 46 :: w) with
  | none => rw [hx] at h; cases h
  | some x =>
   rw [hx] at h
   cases h
   obtain ⟨t, g, h1, h2, h3, h4, h5⟩ := (rdH_iff _ x).1 hx
   have h6 := okr t g _ h3
   exact ⟨⟨a1, a2, a3, a4⟩, a5, h6.2, a7, a8, a9, by show r.key.length + r.val.length + r.old.length ≤ _; omega⟩
theorem fold_fit (fs : List Fld) : ∀ (ws : List (List UInt8)) (r s : Req) (N : Nat), foldF fs ws r = some s → FitN N r → FitN (N + sumL ws) s := by
 induction fs with
 | nil =>
  intro ws r s N h hr
  cases ws with
  | nil => cases h; simpa [sumL] using hr
  | cons w ws => cases h
 | cons f fs ih =>
  intro ws r s N h hr
  cases ws with
  | nil => cases h
  | cons w ws =>
   rw [foldF] at h
   cases hs : stepF f w r with
   | none => rw [hs] at h; cases h
   | some q =>
    rw [hs, Option.bind_some] at h
    have := ih ws q s _ h (step_fit f w r q N hs hr)
    simpa [sumL, Nat.add_assoc] using this
theorem read_fit {ws : List (List UInt8)} {r : Req} (h : readR ws = some r) : FitN (sumL ws) r := by
 cases ws with
 | nil => cases h
 | cons w ws =>
  rw [readR] at h
  cases hd : deedW w with
  | none => rw [hd] at h; cases h
  | some d =>
   rw [hd, Option.bind_some] at h
   obtain ⟨hd1, rfl⟩ := deedW_of hd
   have h0 : FitN 0 { req0 with deed := (d : Int) } := by
    refine ⟨⟨?_, ?_, ?_, ?_⟩, ?_, ?_, ?_, ?_, ?_, ?_⟩ <;> simp [req0] <;> omega
   have := fold_fit _ ws _ r 0 h h0
   refine ⟨⟨this.hg, this.qk, this.qb, this.lim⟩, this.hr, this.rts, this.ten, this.ht, this.deed, Nat.le_trans this.len ?_⟩
   simp [sumL]
theorem line_fit {l : List UInt8} {e : Int × Req} (h : lnP (l, true) = some (.inr e)) : inI e.1 ∧ FitN l.length e.2 := by
 unfold lnP at h
 rw [if_pos rfl] at h
 obtain ⟨w, t, hw⟩ := spl_ex l
 have hs := spl_sum l
 dsimp only at h
 rw [hw] at h hs
 rw [wsP] at h
 split at h
 ·cases hp : pksR t with
  | none => rw [hp] at h; cases h
  | some y => rw [hp] at h; cases h
 ·cases hn : num w with
  | none => rw [hn] at h; cases h
  | some n =>
   rw [hn, Option.bind_some] at h
   cases hr : readR t with
   | none => rw [hr] at h; cases h
   | some r =>
    rw [hr] at h
    cases h
    have h1 := ((num_iff w n).1 hn).1
    have h2 := read_fit hr
    refine ⟨⟨by show _ ≤ n; omega, by show n ≤ _; omega⟩, ⟨⟨h2.hg, h2.qk, h2.qb, h2.lim⟩, h2.hr, h2.rts, h2.ten, h2.ht, h2.deed, Nat.le_trans h2.len ?_⟩⟩
    simp only [sumL, List.map_cons, List.sum_cons] at hs ⊢
    omega
theorem run_fit (N : Nat) (ls : List (List UInt8 × Bool)) : ∀ (st st' : Scr) (k : Nat), (∀ x ∈ ls, x.1.length ≤ N) → runP ls st k = .ok st' → (∀ e ∈ st.1, inI e.1 ∧ FitN N e.2) → ∀ e ∈ st'.1, inI e.1 ∧ FitN N e.2 := by
 induction ls with
 | nil => intro st st' k _ h hs; cases h; exact hs
 | cons x t ih =>
  intro st st' k hl h hs
  rw [runP] at h
  cases hs2 : stP st x with
  | error c => rw [hs2] at h; cases h
  | ok s2 =>
   rw [hs2] at h
   obtain ⟨y, h2, hy, rfl, hb⟩ := stP_true hs2
   refine ih _ _ _ (fun z hz => hl z (List.mem_cons_of_mem _ hz)) h ?_
   cases y with
   | inl l => exact hs
   | inr e =>
    intro e' he'
    rcases List.mem_append.1 he' with h3 | h3
    ·exact hs e' h3
    ·rw [List.mem_singleton.1 h3]
     obtain ⟨k1, k2⟩ := line_fit hy
     exact ⟨k1, ⟨⟨k2.hg, k2.qk, k2.qb, k2.lim⟩, k2.hr, k2.rts, k2.ten, k2.ht, k2.deed, Nat.le_trans k2.len (hl x List.mem_cons_self)⟩⟩
theorem lnsA_le (l : List UInt8) : ∀ acc, ∀ x ∈ lnsA acc l, x.1.length ≤ acc.length + l.length := by
 induction l with
 | nil =>
  intro acc x hx
  rw [lnsA] at hx
  split at hx
  ·cases hx
  ·rw [List.mem_singleton.1 hx]; simp
 | cons c r ih =>
  intro acc x hx
  rw [lnsA] at hx
  split at hx
  ·rcases List.mem_cons.1 hx with h | h
   ·rw [h]; simp
   ·have := ih [] x h; simp at this ⊢; omega
  ·have := ih (acc ++ [c]) x hx
   simp at this ⊢
   omega
/-- what is read off a text fits -/
theorem parse_fit {text : List UInt8} {s : Scr} (h : parseP text = .ok s) : EsFit s.1 := by
 unfold parseP at h
 split at h
 ·cases h
 ·rename_i hl
  have := run_fit text.length _ _ _ _ (fun x hx => by have := lnsA_le text [] x hx; simpa using this) h (by simp)
  exact fun e he => ⟨(this e he).1, (this e he).2.fit (by omega)⟩
theorem parse_big {text : List UInt8} {s : Scr} (h : parseP text = .ok s) : bigP s = false := by
 unfold parseP at h
 split at h
 ·cases h
 ·exact run_big _ _ _ _ h rfl
end Go.Proofs.YtkbedajbbakihaaGreatDoor

/-
 Entries and scripts compared (equal ones), walked. Conditions: the lists lie in memory.
-/
namespace Go.Proofs.YtkbedajbbakihaaGreatDoor
open Go.RowKit
set_option linter.unusedSimpArgs false
set_option linter.unusedVariables false

theorem mixedS : Tryz.prog.follows .mixedOrders = true := by kernel_rfl
theorem key59 : Tryz.prog.keyTypeAt 5 59 = true := by kernel_rfl
set_option maxRecDepth 100000 in
theorem lits_ent (e : Int × Req) (h1 : (Lit.int .i64 e.1).wf = true) (h : e.2.wf) : Tryz.prog.keyLits 6 59 (ent1 e) = some (.int .i64 e.1 :: litsR e.2) := by
 have a1 := lits_int (P := Tryz.prog) (d := 4) Tryz.underlying3 e.1 h1
 have a2 := lits_req e.2 h
 have n3 : Tryz.prog.cellsOf 3 = 1 := by kernel_rfl
 have n39 : Tryz.prog.cellsOf 39 = 12 := by kernel_rfl
 have hl : (reqA e.2).toList.length = 12 := rfl
 unfold Program.keyLits
 simp only [Tryz.underlying59]
 simp [ent1, n3, n39, a1, List.take_of_length_le (Nat.le_of_eq hl)]
 have n59 : Tryz.prog.cellsOf 59 = 13 := by kernel_rfl
 have hz : (reqA e.2).size = 12 := rfl
 rw [n59, hz, a2]
 exact ⟨rfl, rfl⟩
theorem guard59 (x y : Operand) (Q R : Array Value) (W : World) : (eqGuard .neq 59 x y (.agg Q) (.agg R)).run Tryz.prog W = .ok () W := by kernel_rfl
theorem wp_neq59 {op : Oper} {a : Act} {w : World} {K : Act → World → Prop} {Q0 : Exit → Act → World → Prop} (x y : Operand) (t : TypeId) (ho : op.op = .binOp .neq 59 x y t) (Q R : Array Value) (hx : a.eval x = .agg Q) (hy : a.eval y = .agg R) (b : Bool)
  (hb : (binOp .neq 59 (.agg Q) (.agg R)).run Tryz.prog w = .ok (.bool b) w) (h : K (a.put op.dst (.bool b)) w) : op.wp Tryz.prog a w K Q0 := by
 unfold Oper.wp execOp
 simp only [ho, hx, hy, Sem.run_bind, guard59, Result.andThen_ok, hb, Sem.run_pure]
 exact h
theorem eq_ent (e : Int × Req) (h1 : (Lit.int .i64 e.1).wf = true) (h : e.2.wf) (w : World) : (binOp .neq 59 (.agg (ent1 e).toArray) (.agg (ent1 e).toArray)).run Tryz.prog w = .ok (.bool false) w := by
 obtain ⟨b, h1, h2⟩ := run_equalIn_deep (P := Tryz.prog) 9995 5 59 key59 w 6 6 (.agg (ent1 e).toArray) (.agg (ent1 e).toArray) _ _ (by kernel_rfl) (by kernel_rfl) (lits_ent e h1 h) (lits_ent e h1 h)
 obtain rfl : b = true := h2.2 rfl
 rw [run_neq_struct, h1]
 rfl
set_option maxRecDepth 100000 in
theorem SameEntries_is (v u : Value) (es : List (Int × Req)) (hn : es.length ≤ 1000000) (hf : ∀ e ∈ es, (Lit.int .i64 e.1).wf = true ∧ e.2.wf) (w : World) (hv : EntsAt w v es) (hu : EntsAt w u es) :
  Calls Tryz.prog 51 #[v, u] w fun e w' => e = .returned (.bool true) ∧ Later w w' := by
 obtain ⟨ao, ca, rfl, hA⟩ := hv
 obtain ⟨bo, cb, rfl, hB⟩ := hu
 obtain ⟨n, hN⟩ : ∃ n, es.length = n := ⟨_, rfl⟩
 rw [hN] at hn hA hB ⊢
 have HLW := Lib.hid (fun k => (Later.refl w).drewN k)
 have HAB := Lib.hid (And.intro hA hB)
 have HN := Lib.hid hN
 have HF := Lib.hid hf
 clear hA hB hN hf
 go_enter Tryz.func51, Tryz.ntmps51
 go_wp2
 go_loopw [5] (fun i wr => ∃ k nd : Nat, k ≤ n ∧ i = .int .i64 k ∧ wr = w.drewN nd) (fun i _ => n - (intOf i).toNat)
 case atStart => exact ⟨0, 0, Nat.zero_le _, rfl, rfl⟩
 case round =>
  obtain ⟨k, nd, hk, rfl, rfl⟩ := hrel
  by_cases hlt : k < n
  ·obtain ⟨X, ox, hax, hcx⟩ : ∃ X off, ao = some ⟨X, off, none⟩ ∧ ∀ i e, es[i]? = some e → w.rangeAt X (off + i * 13) (ent1 e) := HAB.out.1.resolve_left (by omega)
   obtain ⟨Y, oy, hay, hcy⟩ : ∃ X off, bo = some ⟨X, off, none⟩ ∧ ∀ i e, es[i]? = some e → w.rangeAt X (off + i * 13) (ent1 e) := HAB.out.2.resolve_left (by omega)
   subst hax hay
   obtain ⟨e, he⟩ : ∃ e, es[k]? = some e := ⟨_, List.getElem?_eq_getElem (by have := HN.out; omega)⟩
   have hef := HF.out e (List.mem_of_getElem? he)
   have hEQ := eq_ent e hef.1 hef.2
   have hX := hcx k e he
   have hY := hcy k e he
   obtain ⟨D, hD⟩ : ∃ D, ent1 e = D := ⟨_, rfl⟩
   have hDl : D.length = 13 := by rw [← hD]; rfl
   rw [hD] at hX hY hEQ
   have HX := Lib.hid (And.intro hX hY)
   have HEQ := Lib.hid hEQ
   have HDI := Lib.hid (show (Tryz.prog.info? 59).map (·.size) = some D.length by rw [hDl]; kernel_rfl)
   clear hcx hcy he hef hX hY hEQ hDl hD
   go_wp2_with fail
   refine wp_region_iv mixedS (fun D' a' W' => ∃ y17 y18 y19 y20 y21 y22 y23 y24 y25, a' = ⟨#[.slice (some ⟨X, ox, none⟩) n ca, .slice (some ⟨Y, oy, none⟩) n cb, undef, undef, u4, .int .i64 k, .slice (some ⟨X, ox, none⟩) n ca, .int .i64 n, .slice (some ⟨Y, oy, none⟩) n cb, .int .i64 n, .bool false, .int .i64 k, .slice (some ⟨X, ox, none⟩) n ca, .int .i64 n, .bool true, u15, u16, y17, y18, y19, y20, y21, y22, y23, y24, y25], []⟩ ∧ (∃ nd', W' = w.drewN nd') ∧ (D' 0 = true → y17 = .slice (some ⟨X, ox, none⟩) n ca) ∧ (D' 1 = true → y18 = .int .i64 k) ∧ (D' 2 = true → y19 = .pointer (some ⟨X, ox + k * 13, none⟩)) ∧ (D' 3 = true → y20 = .agg D.toArray) ∧ (D' 4 = true → y21 = .slice (some ⟨Y, oy, none⟩) n cb) ∧ (D' 5 = true → y22 = .int .i64 k) ∧ (D' 6 = true → y23 = .pointer (some ⟨Y, oy + k * 13, none⟩)) ∧ (D' 7 = true → y24 = .agg D.toArray) ∧ (D' 8 = true → y25 = .bool false)) (by kernel_rfl) ?_ ?_ ?_
   ·exact ⟨u17, u18, u19, u20, u21, u22, u23, u24, u25, rfl, ⟨nd + 1, rfl⟩, (fun h => by cases h), (fun h => by cases h), (fun h => by cases h), (fun h => by cases h), (fun h => by cases h), (fun h => by cases h), (fun h => by cases h), (fun h => by cases h), (fun h => by cases h)⟩
   ·intro i D' a' W' hi hDi hdep hcl hI
    obtain ⟨y17, y18, y19, y20, y21, y22, y23, y24, y25, rfl, gW, f0, f1, f2, f3, f4, f5, f6, f7, f8⟩ := hI
    have hi' : i = 0 ∨ i = 1 ∨ i = 2 ∨ i = 3 ∨ i = 4 ∨ i = 5 ∨ i = 6 ∨ i = 7 ∨ i = 8 := by
     have : i < 9 := hi
     omega
    rcases hi' with rfl | rfl | rfl | rfl | rfl | rfl | rfl | rfl | rfl
    ·skip
     refine wpOp_step rfl (fun K' hK' => ?_)
     rw [if_pos (by rfl)]
     go_simp
     exact hK' _ _ ⟨_, y18, y19, y20, y21, y22, y23, y24, y25, rfl, gW, (fun _ => rfl), f1, f2, f3, f4, f5, f6, f7, f8⟩
    ·skip
     refine wpOp_step rfl (fun K' hK' => ?_)
     rw [if_pos (by rfl)]
     go_simp
     exact hK' _ _ ⟨y17, _, y19, y20, y21, y22, y23, y24, y25, rfl, gW, f0, (fun _ => rfl), f2, f3, f4, f5, f6, f7, f8⟩
    ·have q0 := f0 (hdep 0 (by kernel_rfl))
     have q1 := f1 (hdep 1 (by kernel_rfl))
     subst q0
     subst q1
     refine wpOp_step rfl (fun K' hK' => ?_)
     rw [if_pos (by rfl)]
     go_simp
     exact hK' _ _ ⟨_, _, _, y20, y21, y22, y23, y24, y25, rfl, gW, (fun _ => rfl), (fun _ => rfl), (fun _ => rfl), f3, f4, f5, f6, f7, f8⟩
    ·have q2 := f2 (hdep 2 (by kernel_rfl))
     subst q2
     obtain ⟨nd', rfl⟩ := gW
     refine wpOp_step rfl (fun K' hK' => ?_)
     rw [if_pos (by rfl)]
     refine wp_load_mid 59 (.tmp 19) rfl X (ox + k * 13) rfl D _ HX.out.1 Tryz.underlying59 rfl HDI.out ?_
     exact hK' _ _ ⟨y17, y18, _, _, y21, y22, y23, y24, y25, rfl, ⟨nd', rfl⟩, f0, f1, (fun _ => rfl), (fun _ => rfl), f4, f5, f6, f7, f8⟩
    ·skip
     refine wpOp_step rfl (fun K' hK' => ?_)
     rw [if_pos (by rfl)]
     go_simp
     exact hK' _ _ ⟨y17, y18, y19, y20, _, y22, y23, y24, y25, rfl, gW, f0, f1, f2, f3, (fun _ => rfl), f5, f6, f7, f8⟩
    ·skip
     refine wpOp_step rfl (fun K' hK' => ?_)
     rw [if_pos (by rfl)]
     go_simp
     exact hK' _ _ ⟨y17, y18, y19, y20, y21, _, y23, y24, y25, rfl, gW, f0, f1, f2, f3, f4, (fun _ => rfl), f6, f7, f8⟩
    ·have q4 := f4 (hdep 4 (by kernel_rfl))
     have q5 := f5 (hdep 5 (by kernel_rfl))
     subst q4
     subst q5
     refine wpOp_step rfl (fun K' hK' => ?_)
     rw [if_pos (by rfl)]
     go_simp
     exact hK' _ _ ⟨y17, y18, y19, y20, _, _, _, y24, y25, rfl, gW, f0, f1, f2, f3, (fun _ => rfl), (fun _ => rfl), (fun _ => rfl), f7, f8⟩
    ·have q6 := f6 (hdep 6 (by kernel_rfl))
     subst q6
     obtain ⟨nd', rfl⟩ := gW
     refine wpOp_step rfl (fun K' hK' => ?_)
     rw [if_pos (by rfl)]
     refine wp_load_mid 59 (.tmp 23) rfl Y (oy + k * 13) rfl D _ HX.out.2 Tryz.underlying59 rfl HDI.out ?_
     exact hK' _ _ ⟨y17, y18, y19, y20, y21, y22, _, _, y25, rfl, ⟨nd', rfl⟩, f0, f1, f2, f3, f4, f5, (fun _ => rfl), (fun _ => rfl), f8⟩
    ·have q3 := f3 (hdep 3 (by kernel_rfl))
     have q7 := f7 (hdep 7 (by kernel_rfl))
     subst q3
     subst q7
     refine wpOp_step rfl (fun K' hK' => ?_)
     rw [if_pos (by rfl)]
     refine wp_neq59 (.tmp 20) (.tmp 24) 59 rfl D.toArray D.toArray rfl rfl false (HEQ.out _) ?_
     exact hK' _ _ ⟨y17, y18, y19, _, y21, y22, y23, _, _, rfl, gW, f0, f1, f2, (fun _ => rfl), f4, f5, f6, (fun _ => rfl), (fun _ => rfl)⟩
   ·rintro D' a' W' hD' ⟨y17, y18, y19, y20, y21, y22, y23, y24, y25, rfl, gW, f0, f1, f2, f3, f4, f5, f6, f7, f8⟩
    obtain ⟨nd', rfl⟩ := gW
    have q := f8 (hD' 8 (by decide))
    subst q
    go_wp2_with fail
    go_roundw
    case rel => exact ⟨k + 1, nd', by omega, by go_num, rfl⟩
    case measure => simp [intOf]; omega
  ·go_wp2_with fail
   go_ret
   exact ⟨rfl, HLW.out _⟩
theorem SameInts_nil (a b : Option Addr) (ca cb : Nat) (w : World) :
  Calls Tryz.prog 52 #[.slice a 0 ca, .slice b 0 cb] w fun e w' => e = .returned (.bool true) ∧ w' = w := by
 go_enter Tryz.func52, Tryz.ntmps52
 go_wp2
 go_loop [5] (fun i => i = .int .i64 0) (fun i => 0)
 case atStart => exact rfl
 case round =>
  obtain rfl := hrel
  go_wp2
  go_ret
  exact ⟨rfl, rfl⟩
theorem SameInts_eq (v u : Value) (ps : List Int) (hn : ps.length ≤ 1000000) (w : World) (hv : NumsAt w v ps) (hu : NumsAt w u ps) :
  Calls Tryz.prog 52 #[v, u] w fun e w' => e = .returned (.bool true) ∧ Later w w' := by
 obtain ⟨ao, ca, rfl, hA⟩ := hv
 obtain ⟨bo, cb, rfl, hB⟩ := hu
 by_cases h0 : ps.length = 0
 ·rw [h0]
  refine (SameInts_nil ao bo ca cb w).mono ?_
  rintro e w' ⟨rfl, rfl⟩
  exact ⟨rfl, Later.refl _⟩
 ·obtain ⟨X, ox, rfl, hx⟩ := hA.resolve_left h0
  obtain ⟨Y, oy, rfl, hy⟩ := hB.resolve_left h0
  exact SameInts_is X ox Y oy ps ps ps.length ca cb rfl rfl hn w hx hy true (by simp)
theorem SameScript_is (ev pv eu pu : Value) (s : Scr) (hn : s.1.length ≤ 1000000) (hm : s.2.length ≤ 1000000) (hf : ∀ e ∈ s.1, (Lit.int .i64 e.1).wf = true ∧ e.2.wf) (w : World)
  (hv : EntsAt w ev s.1) (hv2 : NumsAt w pv s.2) (hu : EntsAt w eu s.1) (hu2 : NumsAt w pu s.2) :
  Calls Tryz.prog 19 #[.agg #[ev, pv], .agg #[eu, pu]] w fun e w' => e = .returned (.bool true) ∧ Later w w' := by
 have hlA : Later w ((w.alloc (.cells #[ev, pv] 45)).alloc (.cells #[eu, pu] 45)) := ((Later.refl w).alloc _).alloc _
 have HL := Lib.hid hlA
 obtain ⟨ao, ca, rfl, hA⟩ := id hv
 obtain ⟨bo, cb, rfl, hB⟩ := id hu
 obtain ⟨ap, cp, rfl, hA2⟩ := id hv2
 obtain ⟨bp, cq, rfl, hB2⟩ := id hu2
 have HSE := Lib.hid (fun W (h : Later w W) => SameEntries_is _ _ s.1 hn hf W (hv.later h) (hu.later h))
 have HSI := Lib.hid (fun W (h : Later w W) => SameInts_eq _ _ s.2 hm W (hv2.later h) (hu2.later h))
 clear hv hu hv2 hu2 hA hB hA2 hB2 hf hlA
 go_enter Tryz.func19, Tryz.ntmps19
 go_wp2_with fail
 refine (HSE.out _ HL.out).mono ?_
 rintro e w1 ⟨rfl, hl1⟩
 obtain ⟨B, hB⟩ : ∃ B, w.heap.size = B := ⟨_, rfl⟩
 have hsz : ∀ o, (w.alloc o).heap.size = w.heap.size + 1 := fun o => by show (w.heap.push o).size = _; simp
 have c0 : ((w.alloc (.cells #[.slice ao s.1.length ca, .slice ap s.2.length cp] 45)).alloc (.cells #[.slice bo s.1.length cb, .slice bp s.2.length cq] 45)).cell? ⟨B, 1, none⟩ = some (.slice ap s.2.length cp) := by
  exact cell_at ((Later.refl _).alloc _) (by rw [← hB, World.cell?_alloc_new]; rfl) (by rw [hsz]; exact Nat.lt_succ_of_le (Nat.le_of_eq hB.symm))
 have c1 : ((w.alloc (.cells #[.slice ao s.1.length ca, .slice ap s.2.length cp] 45)).alloc (.cells #[.slice bo s.1.length cb, .slice bp s.2.length cq] 45)).cell? ⟨B + 1, 1, none⟩ = some (.slice bp s.2.length cq) := by
  have := World.cell?_alloc_new (w := w.alloc (.cells #[.slice ao s.1.length ca, .slice ap s.2.length cp] 45)) #[.slice bo s.1.length cb, .slice bp s.2.length cq] 45 1
  rw [show (w.alloc (.cells #[.slice ao s.1.length ca, .slice ap s.2.length cp] 45)).heap.size = B + 1 by rw [← hB, hsz]] at this
  rw [this]; rfl
 have d0 := cell_at hl1 c0 (cell_lt c0)
 have d1 := cell_at hl1 c1 (cell_lt c1)
 have HL1 := Lib.hid (HL.out.trans hl1)
 clear c0 c1 hl1
 try rw [hB] at *
 go_wp2_with fail
 refine (HSI.out _ HL1.out).mono ?_
 rintro e w2 ⟨rfl, hl2⟩
 have HL2 := Lib.hid (HL1.out.trans hl2)
 clear hl2
 go_wp2_with fail
 go_ret
 exact ⟨rfl, HL2.out⟩
end Go.Proofs.YtkbedajbbakihaaGreatDoor

/-
 Parse and Format as the laws call them, and one law walked: ScriptAgain. Conditions: the listed variables read as laid.
-/
namespace Go.Proofs.YtkbedajbbakihaaGreatDoor
open Go.RowKit
set_option linter.unusedSimpArgs false
set_option linter.unusedVariables false

theorem Parse_any (l : List UInt8) (w : World) (hw : Laid w) : Calls Tryz.prog 17 #[strV l] w (PEnd (parseP l) w) := by
 by_cases h : l.length ≤ 262144
 ·exact Parse_is l h w hw
 ·exact Parse_long l (by omega) w
/-- the value of a call that parsed well -/
def POk (s : Scr) (w : World) (e : Ending) (w' : World) : Prop := Later w w' ∧ ∃ ao ca bo cb, e = .returned (.tuple #[.agg #[.slice ao s.1.length ca, .slice bo s.2.length cb], .int .i64 0, .int .i64 0]) ∧ EntsAt w' (.slice ao s.1.length ca) s.1 ∧ NumsAt w' (.slice bo s.2.length cb) s.2
theorem Parse_err {l : List UInt8} {n : Nat} {c : Int} (h : parseP l = .error (n, c)) (w : World) (hw : Laid w) : Calls Tryz.prog 17 #[strV l] w (Ret (.tuple #[.agg #[.slice none 0 0, .slice none 0 0], .int .i64 n, .int .i64 c]) w) := by
 refine (Parse_any l w hw).mono ?_
 rw [h]
 rintro e w' ⟨h1, h2⟩
 exact ⟨h2, h1⟩
theorem Parse_ok {l : List UInt8} {s : Scr} (h : parseP l = .ok s) (w : World) (hw : Laid w) : Calls Tryz.prog 17 #[strV l] w (POk s w) := by
 refine (Parse_any l w hw).mono ?_
 rw [h]
 rintro e w' ⟨h1, ev, pv, rfl, h2, h3⟩
 have hE := EntsAt.of_owns h2
 have hP := NumsAt.of_owns h3
 obtain ⟨ao, ca, rfl, -⟩ := id hE
 obtain ⟨bo, cb, rfl, -⟩ := id hP
 exact ⟨h1, ao, ca, bo, cb, rfl, hE, hP⟩
theorem Same_of {l : List UInt8} {s : Scr} (h : parseP l = .ok s) (ev pv eu pu : Value) (w : World) (hv : EntsAt w ev s.1) (hv2 : NumsAt w pv s.2) (hu : EntsAt w eu s.1) (hu2 : NumsAt w pu s.2) :
  Calls Tryz.prog 19 #[.agg #[ev, pv], .agg #[eu, pu]] w (Ret (.bool true) w) := by
 have hb := big_le (s := s) (by rw [parse_big h]; simp)
 refine SameScript_is ev pv eu pu s (by omega) (by omega) (fun e he => ⟨?_, (parse_fit h e he).2.wf⟩) w hv hv2 hu hu2
 have := (parse_fit h e he).1
 unfold inI at this
 obtain ⟨h1, h2⟩ := this
 simp only [Lit.wf]
 go_wf
end Go.Proofs.YtkbedajbbakihaaGreatDoor
