/-
 Texts of this proof, put together (Sj, Eq): each part's first words say what it holds. Conditions: as each part says.
-/
import Derived.Test.YtkbedajbbakihaaGreatDoorQf
import Derived.Deep.RegionLawGrows
import Derived.Test.YtkbedajbbakihaaGreatDoorQd1
import Derived.DeepKeys
/-
 join; and ShowRequest's function that puts a line together, walked. Conditions: as Sk's.
-/
namespace Go.Proofs.YtkbedajbbakihaaGreatDoor
open Go.RowKit Go.Sort Go.Lib
set_option linter.unusedSimpArgs false
set_option linter.unusedVariables false

theorem word_len (l : List UInt8) : (word l).length ≤ 3 * l.length + 1 := by
 unfold word
 split
 ·simp
 ·have := flat_len l; omega
theorem letters_len (r : Int) : (lettersR r).length ≤ 3 := by
 unfold lettersR
 simp only [List.length_append]
 repeat' split <;> simp
theorem itoa_len (v : Int) (h0 : -9223372036854775808 ≤ v) (h1 : v ≤ 9223372036854775807) : (Lib.itoa v).length ≤ 21 := by
 rcases int_cases v with ⟨n, rfl⟩ | ⟨n, hn, rfl⟩
 ·rw [itoa_pos]; have := digits_le n (by omega); omega
 ·rw [itoa_neg n hn, List.length_cons]; have := digits_le n (by omega); omega
theorem shF_len (f : Fld) (r : Req) (hr : r.fit) (x : List UInt8) (h : shF f r = some x) : x.length ≤ 15000100 := by
 have hl := hr.len
 cases f with
 | hdl =>
  simp only [shF] at h
  split at h
  ·rename_i ho
   cases h
   have h1 := (okH_iff _ _ _).1 ho
   have := digits_le r.ht.toNat (by omega)
   have := digits_le r.hg.toNat (by have := hr.hg; omega)
   have := letters_len r.hr
   simp only [showH, List.length_append, List.length_cons]
   omega
  ·cases h
 | key => cases h; have := word_len r.key; omega
 | val => cases h; have := word_len r.val; omega
 | old => cases h; have := word_len r.old; omega
 | lim => cases h; have := itoa_len r.lim hr.lim.1 hr.lim.2; omega
 | ten =>
  simp only [shF] at h
  split at h
  ·cases h; have := itoa_len r.ten hr.ten.1 hr.ten.2; omega
  ·cases h
 | qk => cases h; have := digits_le r.qk.toNat (by have := hr.qk; omega); omega
 | qb => cases h; have := digits_le r.qb.toNat (by have := hr.qb; omega); omega
 | rts =>
  simp only [shF] at h
  split at h
  ·cases h; have := letters_len r.rts; omega
  ·cases h
theorem shFs_sum (r : Req) (hr : r.fit) (fs : List Fld) : ∀ ws, shFs r fs = some ws → ws.length = fs.length ∧ sumL ws ≤ 15000100 * fs.length := by
 induction fs with
 | nil => intro ws h; cases h; simp [sumL]
 | cons f fs ih =>
  intro ws h
  rw [shFs] at h
  cases hf : shF f r with
  | none => rw [hf] at h; cases h
  | some x =>
   rw [hf, Option.bind_some] at h
   cases hfs : shFs r fs with
   | none => rw [hfs] at h; cases h
   | some vs =>
    rw [hfs] at h
    cases h
    have := shF_len f r hr x hf
    obtain ⟨h1, h2⟩ := ih vs hfs
    simp only [sumL, List.map_cons, List.sum_cons, List.length_cons] at h2 ⊢
    exact ⟨by omega, by omega⟩
/-- x is a slice of the words ws -/
def JS (V : World) (x : Value) (ws : List (List UInt8)) : Prop := ∃ X cap, x = .slice (some ⟨X, 0, none⟩) ws.length cap ∧ ws.length ≤ cap ∧ X < V.heap.size ∧ ∀ j, j < ws.length → V.cell? ⟨X, j, none⟩ = some (strV (wrd ws j))
theorem JS.later {V V2 : World} {x : Value} {ws : List (List UInt8)} (h : JS V x ws) (hl : Later V V2) : JS V2 x ws := by
 obtain ⟨X, cap, h1, h2, h3, h4⟩ := h
 exact ⟨X, cap, h1, h2, Nat.lt_of_lt_of_le h3 hl.size, fun j hj => cell_at hl (h4 j hj) h3⟩
theorem join_is (V : World) (x : Value) (ws : List (List UInt8)) (h : JS V x ws) (hlen : sumL ws + ws.length ≤ 1000000000) :
  Calls Tryz.prog 61 #[x] V fun e w' => e = .returned (strV (jn ws)) ∧ Later V w' := by
 obtain ⟨X, cap, rfl, h2, h3, h4⟩ := h
 have hj := jn_len ws
 have hm : (ws.map fun y => (⟨y.toArray⟩ : ByteArray)).map (·.data.toList) = ws := by
  rw [List.map_map]
  exact (List.map_congr_left (fun y _ => by simp)).trans (List.map_id ws)
 have hJ := Tryz.strings_Join X 0 cap (ws.map fun y => ⟨y.toArray⟩) ⟨#[32]⟩ V (fun j y hy => by
  rw [List.getElem?_map] at hy
  have hlt : j < ws.length := by
   rcases Nat.lt_or_ge j ws.length with h | h
   ·exact h
   ·rw [List.getElem?_eq_none h] at hy; cases hy
  rw [List.getElem?_eq_getElem hlt] at hy
  cases hy
  rw [Nat.zero_add, h4 j hlt]
  simp [strV, wrd, List.getD_eq_getElem?_getD, hlt]) h3 (by simp; omega) (by simpa using h2) (by rw [hm]; show (Lib.join ws [32]).length ≤ _; rw [join_jn]; omega)
 rw [hm] at hJ
 have e1 : Lib.join ws (⟨#[32]⟩ : ByteArray).data.toList = jn ws := join_jn ws
 rw [e1, List.length_map] at hJ
 have HJ := Lib.hid hJ
 unfold strV
 obtain ⟨n, hn⟩ : ∃ n, ws.length = n := ⟨_, rfl⟩
 obtain ⟨T, hT⟩ : ∃ T : ByteArray, T = ⟨(jn ws).toArray⟩ := ⟨_, rfl⟩
 rw [hn, ← hT] at HJ
 rw [hn, ← hT]
 clear hJ hT hn e1 hm hj hlen h2 h3 h4
 go_enter Tryz.func61, Tryz.ntmps61
 go_wp2_with fail
 refine HJ.out.mono ?_
 rintro e w1 ⟨rfl, hl⟩
 have HL := Lib.hid hl
 clear hl
 go_wp2_with fail
 go_ret
 exact ⟨rfl, HL.out⟩
/-- how the line's function ends: the text lies in the cell in block SB -/
def LnEnd (res : Option (List UInt8)) (SB : Nat) (w : World) (e : Ending) (w' : World) : Prop :=
 match res with
 | none => e = wrongE ∧ Later w w'
 | some t => e = .returned (.tuple #[]) ∧ ∃ V0, Later w V0 ∧ w' = V0.setCell ⟨SB, 0, none⟩ (strV t)
theorem info9 : (Tryz.prog.info? 9).map (fun i => (i.zero, i.size, i.bytes)) = some (some (.string ⟨#[]⟩), 1, 16) := by kernel_rfl
theorem js_of_owns {V : World} {base : Nat} {v : Value} {ws : List (List UInt8)} (h : V.ownsRow base 9 1 v ws.length (wsC ws)) (h0 : 0 < ws.length) : JS V v ws := by
 obtain ⟨h1, ⟨_, h2⟩ | ⟨g, cap, cur, rfl, _, hg, hc, _, hs, ht⟩⟩ := h
 ·omega
 ·have hg2 : g < V.heap.size := by
   rcases Nat.lt_or_ge g V.heap.size with h | h
   ·exact h
   ·rw [Array.getElem?_eq_none h] at hg; cases hg
  refine ⟨g, cap, rfl, hc, hg2, fun j hj => ?_⟩
  rw [Lib.cell_of_heap hg]
  have h2 : (wsC ws)[j]? = some (strV (wrd ws j)) := wsC_get hj
  rw [← ht, List.getElem?_take, if_pos (by omega)] at h2
  simpa using h2
theorem one_at {V : World} {A : Nat} {x : Value} (h : V.cell? ⟨A, 0, none⟩ = some x) (j : Nat) (u : Value) (hu : [x][j]? = some u) : V.cell? (Addr.add ⟨A, 0, none⟩ j) = some u := by
 rcases j with _ | j
 ·simp at hu
  subst hu
  exact h
 ·simp at hu
/-- what the line's region has done -/
def Ga (name : List UInt8) (V : World) (x : Value) : Prop := ∃ A, x = .slice (some ⟨A, 0, none⟩) 1 1 ∧ A < V.heap.size ∧ V.cell? ⟨A, 0, none⟩ = some (strV name)
def Gw (r : Req) (fl : List Fld) (V : World) (x : Value) : Prop := ∃ ws L, shFs r fl = some ws ∧ x = .slice (some ⟨L, 0, none⟩) ws.length ws.length ∧ V.heap[L]? = some (.cells (wsC ws).toArray 9 (0, 0)) ∧ L < V.heap.size
def Gj (r : Req) (fl : List Fld) (name : List UInt8) (V : World) (x : Value) : Prop := ∃ ws, shFs r fl = some ws ∧ JS V x (name :: ws)
def Gt (r : Req) (fl : List Fld) (name : List UInt8) (x : Value) : Prop := ∃ ws, shFs r fl = some ws ∧ x = strV (jn (name :: ws))
theorem Ga.later {name : List UInt8} {V V2 : World} {x : Value} (h : Ga name V x) (hl : Later V V2) : Ga name V2 x := by
 obtain ⟨A, h1, h2, h3⟩ := h
 exact ⟨A, h1, Nat.lt_of_lt_of_le h2 hl.size, cell_at hl h3 h2⟩
theorem Gw.later {r : Req} {fl : List Fld} {V V2 : World} {x : Value} (h : Gw r fl V x) (hl : Later V V2) : Gw r fl V2 x := by
 obtain ⟨ws, L, h1, h2, h3, h4⟩ := h
 exact ⟨ws, L, h1, h2, (hl.block L h4).trans h3, Nat.lt_of_lt_of_le h4 hl.size⟩
theorem Gj.later {r : Req} {fl : List Fld} {name : List UInt8} {V V2 : World} {x : Value} (h : Gj r fl name V x) (hl : Later V V2) : Gj r fl name V2 x := by
 obtain ⟨ws, h1, h2⟩ := h
 exact ⟨ws, h1, h2.later hl⟩
/-- the relation of the region: before the store and behind it -/
def GI (w V : World) (SB : Nat) (D9 : Bool) (t : Value) : Prop := if D9 = true then ∃ V0, Later w V0 ∧ V = V0.setCell ⟨SB, 0, none⟩ t else Later w V
set_option maxRecDepth 100000 in
set_option maxHeartbeats 16000000 in
theorem line_is (r : Req) (hr : r.fit) (fl : List Fld) (hfl : 0 < fl.length ∧ fl.length ≤ 4) (name : List UInt8) (hname : name.length ≤ 10) (fid : Nat) (caps : Array Value) (sl : Value) (F B SB : Nat) (w : World) (hw : Laid w)
  (hF : w.heap[F]? = some (.cells #[strV name, sl, .func (.func fid) #[] caps] 116 (0, 0))) (hB : w.heap[B]? = some (.cells (reqA r) 39 (0, 0))) (hSB : w.heap[SB]? = some (.cells #[.string ⟨#[]⟩] 9 (0, 0)))
  (hen : ∀ args W, (callFunc fid args).run Tryz.prog W = .ok (.enter fid args) W) (hsh : ∀ V, Later w V → Calls Tryz.prog fid (#[reqV r] ++ caps) V (ShEnd (shFs r fl) V)) :
  Calls Tryz.prog 60 #[.pointer (some ⟨F, 0, none⟩), .pointer (some ⟨B, 0, none⟩), .pointer (some ⟨SB, 0, none⟩)] w (LnEnd ((shFs r fl).map fun ws => jn (name :: ws)) SB w) := by
 obtain ⟨i0, hi9, hz0, hz1, hz2⟩ := info_parts info9
 obtain ⟨R, hR⟩ : ∃ R, reqA r = R := ⟨_, rfl⟩
 have lt_of : ∀ {k : Nat} {o : Obj}, w.heap[k]? = some o → k < w.heap.size := fun {k o} h => by
  rcases Nat.lt_or_ge k w.heap.size with h9 | h9
  ·exact h9
  ·rw [Array.getElem?_eq_none h9] at h; cases h
 have hFl := lt_of hF
 have hBl := lt_of hB
 have hSl := lt_of hSB
 rw [hR] at hB
 unfold reqV at hsh
 rw [hR] at hsh
 have HFc := Lib.hid (fun (V : World) (hV : Later w V) (o : Nat) u (hu : (#[strV name, sl, .func (.func fid) #[] caps] : Array Value)[o]? = some u) => cell_at hV (p := ⟨F, o, none⟩) (by rw [Lib.cell_of_heap hF]; exact hu) hFl)
 have HBc := Lib.hid (fun (V : World) (hV : Later w V) (o : Nat) u (hu : R[o]? = some u) => cell_at hV (p := ⟨B, o, none⟩) (by rw [Lib.cell_of_heap hB]; exact hu) hBl)
 have HSc := Lib.hid (fun (V : World) (hV : Later w V) => And.intro (cell_at hV (p := ⟨SB, 0, none⟩) (v := .string ⟨#[]⟩) (by rw [Lib.cell_of_heap hSB]; rfl) hSl) (frz_at hV (p := ⟨SB, 0, none⟩) (Lib.frozen_of_heap hSB 0) hSl))
 have HSH := Lib.hid hsh
 have HR := Lib.hid hR
 have HEN := Lib.hid hen
 clear hF hB hSB hFl hBl hSl lt_of hsh hR hen
 go_enter Tryz.func60, Tryz.ntmps60
 refine wp_region_inv mixedZ (fun D a V => ∃ (x3 x4 x5 x6 x7 x8 x9 x10 x11 : Value), a = ⟨#[.pointer (some ⟨F, 0, none⟩), .pointer (some ⟨B, 0, none⟩), .pointer (some ⟨SB, 0, none⟩), x3, x4, x5, x6, x7, x8, x9, x10, x11], []⟩ ∧ GI w V SB (D 9) x11 ∧ (D 9 = true → ∀ k, k < 9 → D k = true) ∧ (D 0 = true → x3 = .pointer (some ⟨F, 0, none⟩)) ∧ (D 1 = true → x4 = strV name) ∧ (D 2 = true → D 9 = false → Ga name V x5) ∧ (D 3 = true → x6 = .pointer (some ⟨F, 2, none⟩)) ∧ (D 4 = true → x7 = .func (.func fid) #[] caps) ∧ (D 5 = true → x8 = .agg R) ∧ (D 6 = true → D 9 = false → Gw r fl V x9) ∧ (D 7 = true → D 9 = false → Gj r fl name V x10) ∧ (D 8 = true → Gt r fl name x11)) (by kernel_rfl) ?h0 ?hstep ?hend
 case h0 => exact ⟨_, _, _, _, _, _, _, _, _, rfl, (Later.refl w).drew, (fun h => by cases h), (fun h => by cases h), (fun h => by cases h), (fun h => by cases h), (fun h => by cases h), (fun h => by cases h), (fun h => by cases h), (fun h => by cases h), (fun h => by cases h), (fun h => by cases h)⟩
 case hend =>
  intro D a V hD hI
  obtain ⟨x3, x4, x5, x6, x7, x8, x9, x10, x11, rfl, hG, -, -, -, -, -, -, -, -, -, hf⟩ := hI
  obtain ⟨ws, e1, rfl⟩ := hf (hD 8 (by decide))
  rw [hD 9 (by decide)] at hG
  obtain ⟨V0, hl, rfl⟩ := hG
  have HF := Lib.hid (show LnEnd ((shFs r fl).map fun ws => jn (name :: ws)) SB w (.returned (.tuple #[])) (V0.setCell ⟨SB, 0, none⟩ (strV (jn (name :: ws)))) from by rw [e1]; exact ⟨rfl, V0, hl, rfl⟩)
  clear e1 hl hD
  first | go_end0 | (go_wp2_with fail; go_end0)
  exact HF.out
 case hstep =>
  intro i D a V hi hD hdep hI
  obtain ⟨x3, x4, x5, x6, x7, x8, x9, x10, x11, rfl, hG, hcl9, f0, f1, f2, f3, f4, f5, f6, f7, f8⟩ := hI
  have hi' : i = 0 ∨ i = 1 ∨ i = 2 ∨ i = 3 ∨ i = 4 ∨ i = 5 ∨ i = 6 ∨ i = 7 ∨ i = 8 ∨ i = 9 := by
   have : i < 10 := hi
   omega
  rcases hi' with rfl | rfl | rfl | rfl | rfl | rfl | rfl | rfl | rfl | rfl
  ·have hD9 : D 9 = false := by
    cases h9 : D 9 with
    | false => rfl
    | true => exact absurd (hcl9 h9 0 (by omega)) (by rw [hD]; decide)
   rw [hD9] at hG
   have hl : Later w V := hG
   refine wpOp_step rfl (fun K' hK => ?_)
   rw [if_pos (by rfl)]
   go_simp
   exact hK _ _ ⟨_, _, _, _, _, _, _, _, _, rfl, (show GI w _ SB (updD D 0 9) _ by rw [show updD D 0 9 = false by simpa [updD] using hD9]; exact hl), (fun h => by rw [show updD D 0 9 = false by simpa [updD] using hD9] at h; cases h), fun _ => rfl, fun h => f1 (by simpa [updD] using h), fun h _ => f2 (by simpa [updD] using h) hD9, fun h => f3 (by simpa [updD] using h), fun h => f4 (by simpa [updD] using h), fun h => f5 (by simpa [updD] using h), fun h _ => f6 (by simpa [updD] using h) hD9, fun h _ => f7 (by simpa [updD] using h) hD9, fun h => f8 (by simpa [updD] using h)⟩
  ·have hD9 : D 9 = false := by
    cases h9 : D 9 with
    | false => rfl
    | true => exact absurd (hcl9 h9 1 (by omega)) (by rw [hD]; decide)
   rw [hD9] at hG
   have hl : Later w V := hG
   have g0 := f0 (hdep 0 (by kernel_rfl))
   subst g0
   have hc := HFc.out V hl 0 (strV name) rfl
   unfold strV at hc
   refine wpOp_step rfl (fun K' hK => ?_)
   rw [if_pos (by rfl)]
   go_simp
   exact hK _ _ ⟨_, _, _, _, _, _, _, _, _, rfl, (show GI w _ SB (updD D 1 9) _ by rw [show updD D 1 9 = false by simpa [updD] using hD9]; exact hl), (fun h => by rw [show updD D 1 9 = false by simpa [updD] using hD9] at h; cases h), fun h => f0 (by simpa [updD] using h), fun _ => rfl, fun h _ => f2 (by simpa [updD] using h) hD9, fun h => f3 (by simpa [updD] using h), fun h => f4 (by simpa [updD] using h), fun h => f5 (by simpa [updD] using h), fun h _ => f6 (by simpa [updD] using h) hD9, fun h _ => f7 (by simpa [updD] using h) hD9, fun h => f8 (by simpa [updD] using h)⟩
  ·have hD9 : D 9 = false := by
    cases h9 : D 9 with
    | false => rfl
    | true => exact absurd (hcl9 h9 2 (by omega)) (by rw [hD]; decide)
   rw [hD9] at hG
   have hl : Later w V := hG
   have g1 := f1 (hdep 1 (by kernel_rfl))
   subst g1
   refine wpOp_step rfl (fun K' hK => ?_)
   rw [if_pos (by rfl)]
   unfold strV
   go_simp
   have hl2 : Later V (V.alloc (.cells #[strV name] 9)) := (Later.refl V).alloc _
   unfold strV at hl2
   exact hK _ _ ⟨_, _, _, _, _, _, _, _, _, rfl, (show GI w _ SB (updD D 2 9) _ by rw [show updD D 2 9 = false by simpa [updD] using hD9]; exact hl.trans hl2), (fun h => by rw [show updD D 2 9 = false by simpa [updD] using hD9] at h; cases h), fun h => f0 (by simpa [updD] using h), fun h => f1 (by simpa [updD] using h), fun _ _ => ⟨V.heap.size, rfl, by simp, by simp [strV]⟩, fun h => f3 (by simpa [updD] using h), fun h => f4 (by simpa [updD] using h), fun h => f5 (by simpa [updD] using h), fun h _ => (f6 (by simpa [updD] using h) hD9).later hl2, fun h _ => (f7 (by simpa [updD] using h) hD9).later hl2, fun h => f8 (by simpa [updD] using h)⟩
  ·have hD9 : D 9 = false := by
    cases h9 : D 9 with
    | false => rfl
    | true => exact absurd (hcl9 h9 3 (by omega)) (by rw [hD]; decide)
   rw [hD9] at hG
   have hl : Later w V := hG
   refine wpOp_step rfl (fun K' hK => ?_)
   rw [if_pos (by rfl)]
   go_simp
   exact hK _ _ ⟨_, _, _, _, _, _, _, _, _, rfl, (show GI w _ SB (updD D 3 9) _ by rw [show updD D 3 9 = false by simpa [updD] using hD9]; exact hl), (fun h => by rw [show updD D 3 9 = false by simpa [updD] using hD9] at h; cases h), fun h => f0 (by simpa [updD] using h), fun h => f1 (by simpa [updD] using h), fun h _ => f2 (by simpa [updD] using h) hD9, fun _ => rfl, fun h => f4 (by simpa [updD] using h), fun h => f5 (by simpa [updD] using h), fun h _ => f6 (by simpa [updD] using h) hD9, fun h _ => f7 (by simpa [updD] using h) hD9, fun h => f8 (by simpa [updD] using h)⟩
  ·have hD9 : D 9 = false := by
    cases h9 : D 9 with
    | false => rfl
    | true => exact absurd (hcl9 h9 4 (by omega)) (by rw [hD]; decide)
   rw [hD9] at hG
   have hl : Later w V := hG
   have g3 := f3 (hdep 3 (by kernel_rfl))
   subst g3
   have hc := HFc.out V hl 2 (.func (.func fid) #[] caps) rfl
   refine wpOp_step rfl (fun K' hK => ?_)
   rw [if_pos (by rfl)]
   go_simp
   exact hK _ _ ⟨_, _, _, _, _, _, _, _, _, rfl, (show GI w _ SB (updD D 4 9) _ by rw [show updD D 4 9 = false by simpa [updD] using hD9]; exact hl), (fun h => by rw [show updD D 4 9 = false by simpa [updD] using hD9] at h; cases h), fun h => f0 (by simpa [updD] using h), fun h => f1 (by simpa [updD] using h), fun h _ => f2 (by simpa [updD] using h) hD9, fun h => f3 (by simpa [updD] using h), fun _ => rfl, fun h => f5 (by simpa [updD] using h), fun h _ => f6 (by simpa [updD] using h) hD9, fun h _ => f7 (by simpa [updD] using h) hD9, fun h => f8 (by simpa [updD] using h)⟩
  ·have hD9 : D 9 = false := by
    cases h9 : D 9 with
    | false => rfl
    | true => exact absurd (hcl9 h9 5 (by omega)) (by rw [hD]; decide)
   rw [hD9] at hG
   have hl : Later w V := hG
   refine wpOp_step rfl (fun K' hK => ?_)
   rw [if_pos (by rfl)]
   refine wp_load_mid 39 (.tmp 1) rfl B 0 rfl R.toList _ (fun j u hj => by rw [Nat.zero_add]; exact HBc.out V hl j u (by simpa using hj)) Tryz.underlying39 rfl (by rw [← HR.out]; exact reqA_info) ?_
   exact hK _ _ ⟨_, _, _, _, _, _, _, _, _, rfl, (show GI w _ SB (updD D 5 9) _ by rw [show updD D 5 9 = false by simpa [updD] using hD9]; exact hl), (fun h => by rw [show updD D 5 9 = false by simpa [updD] using hD9] at h; cases h), fun h => f0 (by simpa [updD] using h), fun h => f1 (by simpa [updD] using h), fun h _ => f2 (by simpa [updD] using h) hD9, fun h => f3 (by simpa [updD] using h), fun h => f4 (by simpa [updD] using h), fun _ => by simp, fun h _ => f6 (by simpa [updD] using h) hD9, fun h _ => f7 (by simpa [updD] using h) hD9, fun h => f8 (by simpa [updD] using h)⟩
  ·have hD9 : D 9 = false := by
    cases h9 : D 9 with
    | false => rfl
    | true => exact absurd (hcl9 h9 6 (by omega)) (by rw [hD]; decide)
   rw [hD9] at hG
   have hl : Later w V := hG
   have g4 := f4 (hdep 4 (by kernel_rfl))
   subst g4
   have g5 := f5 (hdep 5 (by kernel_rfl))
   subst g5
   have hen := HEN.out
   refine wpOp_step rfl (fun K' hK => ?_)
   rw [if_pos (by rfl)]
   go_simp
   refine (HSH.out V hl).mono ?_
   rintro e V2 ⟨hl2, he⟩
   cases hs : shFs r fl with
   | none =>
    rw [hs] at he
    subst he
    exact ⟨rfl, rfl, hl.trans hl2⟩
   | some ws =>
    rw [hs] at he
    obtain ⟨L, rfl, hL1, hL2⟩ := he
    have hLt : L < V2.heap.size := by
     rcases Nat.lt_or_ge L V2.heap.size with h9 | h9
     ·exact h9
     ·rw [Array.getElem?_eq_none h9] at hL1; cases hL1
    exact hK _ _ ⟨_, _, _, _, _, _, _, _, _, rfl, (show GI w _ SB (updD D 6 9) _ by rw [show updD D 6 9 = false by simpa [updD] using hD9]; exact hl.trans hl2), (fun h => by rw [show updD D 6 9 = false by simpa [updD] using hD9] at h; cases h), fun h => f0 (by simpa [updD] using h), fun h => f1 (by simpa [updD] using h), fun h _ => (f2 (by simpa [updD] using h) hD9).later hl2, fun h => f3 (by simpa [updD] using h), fun h => f4 (by simpa [updD] using h), fun h => f5 (by simpa [updD] using h), fun _ _ => ⟨ws, L, hs, rfl, hL1, hLt⟩, fun h _ => (f7 (by simpa [updD] using h) hD9).later hl2, fun h => f8 (by simpa [updD] using h)⟩
  ·have hD9 : D 9 = false := by
    cases h9 : D 9 with
    | false => rfl
    | true => exact absurd (hcl9 h9 7 (by omega)) (by rw [hD]; decide)
   rw [hD9] at hG
   have hl : Later w V := hG
   have g2 := f2 (hdep 2 (by kernel_rfl)) hD9
   have g6 := f6 (hdep 6 (by kernel_rfl)) hD9
   obtain ⟨A, rfl, hA1, hA2⟩ := g2
   obtain ⟨ws, L, hs, rfl, hL1, hL2⟩ := g6
   obtain ⟨hwl, hws⟩ := shFs_sum r hr fl ws hs
   refine wpOp_step rfl (fun K' hK => ?_)
   refine step_append_grows rfl (.tmp 5) (.tmp 9) 29 rfl 9 i0 (.string ⟨#[]⟩) 1 16 Tryz.underlying29 hi9 hz0 hz1 hz2 rfl (by decide) (some ⟨A, 0, none⟩) 1 1 [strV name] rfl (fun h => by cases h) rfl (fun b hb j u hu => by cases hb; exact one_at hA2 j u hu) ⟨L, 0, none⟩ ws.length ws.length (wsC ws) rfl (by simp [wsC]) (fun j u hu => by rw [Lib.add_plain, Nat.zero_add, Lib.cell_of_heap hL1, List.getElem?_toArray]; exact hu) (fun u hu => by obtain ⟨y, _, rfl⟩ := List.mem_map.1 hu; rfl) (by omega) (by unfold maxLen; omega) (by omega) ?_
   intro v' V2 hown hgr
   have hl2 : Later V V2 := ⟨hgr.os, hgr.tape, hgr.output, hgr.size, fun k hk => hgr.block k hk (by simp)⟩
   have hjs : JS V2 v' (name :: ws) := js_of_owns (ws := name :: ws) (base := V.heap.size) (by rw [List.length_cons, Nat.add_comm]; exact hown) (by simp)
   exact hK _ _ ⟨_, _, _, _, _, _, _, _, _, rfl, (show GI w _ SB (updD D 7 9) _ by rw [show updD D 7 9 = false by simpa [updD] using hD9]; exact hl.trans hl2), (fun h => by rw [show updD D 7 9 = false by simpa [updD] using hD9] at h; cases h), fun h => f0 (by simpa [updD] using h), fun h => f1 (by simpa [updD] using h), fun h _ => (f2 (by simpa [updD] using h) hD9).later hl2, fun h => f3 (by simpa [updD] using h), fun h => f4 (by simpa [updD] using h), fun h => f5 (by simpa [updD] using h), fun h _ => (f6 (by simpa [updD] using h) hD9).later hl2, fun _ _ => ⟨ws, hs, hjs⟩, fun h => f8 (by simpa [updD] using h)⟩
  ·have hD9 : D 9 = false := by
    cases h9 : D 9 with
    | false => rfl
    | true => exact absurd (hcl9 h9 8 (by omega)) (by rw [hD]; decide)
   rw [hD9] at hG
   have hl : Later w V := hG
   have g7 := f7 (hdep 7 (by kernel_rfl)) hD9
   obtain ⟨ws, hs, hjs⟩ := g7
   obtain ⟨hwl, hws⟩ := shFs_sum r hr fl ws hs
   refine wpOp_step rfl (fun K' hK => ?_)
   rw [if_pos (by rfl)]
   go_simp
   refine (join_is V x10 (name :: ws) hjs (by simp only [sumL, List.map_cons, List.sum_cons, List.length_cons] at hws ⊢; omega)).mono ?_
   rintro e V2 ⟨rfl, hl2⟩
   exact hK _ _ ⟨_, _, _, _, _, _, _, _, _, rfl, (show GI w _ SB (updD D 8 9) _ by rw [show updD D 8 9 = false by simpa [updD] using hD9]; exact hl.trans hl2), (fun h => by rw [show updD D 8 9 = false by simpa [updD] using hD9] at h; cases h), fun h => f0 (by simpa [updD] using h), fun h => f1 (by simpa [updD] using h), fun h _ => (f2 (by simpa [updD] using h) hD9).later hl2, fun h => f3 (by simpa [updD] using h), fun h => f4 (by simpa [updD] using h), fun h => f5 (by simpa [updD] using h), fun h _ => (f6 (by simpa [updD] using h) hD9).later hl2, fun h _ => (f7 (by simpa [updD] using h) hD9).later hl2, fun _ => ⟨ws, hs, rfl⟩⟩
  ·rw [hD] at hG
   have hl : Later w V := hG
   have g8 := f8 (hdep 8 (by kernel_rfl))
   have hcl : ∀ k, k < 9 → updD D 9 k = true := by
    intro k hk
    have hk2 : k = 0 ∨ k = 1 ∨ k = 2 ∨ k = 3 ∨ k = 4 ∨ k = 5 ∨ k = 6 ∨ k = 7 ∨ k = 8 := by omega
    rcases hk2 with rfl | rfl | rfl | rfl | rfl | rfl | rfl | rfl | rfl <;> exact hdep _ (by kernel_rfl)
   obtain ⟨ws, hs, rfl⟩ := g8
   obtain ⟨hc, hf⟩ := HSc.out V hl
   unfold strV
   refine wpOp_step rfl (fun K' hK => ?_)
   rw [if_pos (by rfl)]
   go_simp
   exact hK _ _ ⟨_, _, _, _, _, _, _, _, _, rfl, (show GI w _ SB (updD D 9 9) _ from (show (if updD D 9 9 = true then _ else _) by rw [if_pos (by simp [updD])]; exact ⟨V, hl, rfl⟩)), (fun _ => hcl), fun h => f0 (by simpa [updD] using h), fun h => f1 (by simpa [updD] using h), fun h h9 => (by simp [updD] at h9), fun h => f3 (by simpa [updD] using h), fun h => f4 (by simpa [updD] using h), fun h => f5 (by simpa [updD] using h), fun h h9 => (by simp [updD] at h9), fun h h9 => (by simp [updD] at h9), fun _ => ⟨ws, hs, rfl⟩⟩
end Go.Proofs.YtkbedajbbakihaaGreatDoor

/-
 Requests compared. Conditions: the numbers are within their types.
-/
namespace Go.Proofs.YtkbedajbbakihaaGreatDoor
open Go.RowKit
set_option linter.unusedSimpArgs false
set_option linter.unusedVariables false

/-- each number within its type -/
structure Req.wf (r : Req) : Prop where
 deed : (Lit.int .i64 r.deed).wf = true
 ht : (Lit.int .i64 r.ht).wf = true
 hg : (Lit.int .u32 r.hg).wf = true
 hr : (Lit.int .u8 r.hr).wf = true
 lim : (Lit.int .i64 r.lim).wf = true
 ten : (Lit.int .i64 r.ten).wf = true
 qk : (Lit.int .u64 r.qk).wf = true
 qb : (Lit.int .u64 r.qb).wf = true
 rts : (Lit.int .u8 r.rts).wf = true
 key : r.key.length ≤ 9223372036854775807
 val : r.val.length ≤ 9223372036854775807
 old : r.old.length ≤ 9223372036854775807
def litsR (r : Req) : List Lit := [.int .i64 r.deed, .int .i64 r.ht, .int .u32 r.hg, .int .u8 r.hr, .string r.key, .string r.val, .string r.old, .int .i64 r.lim, .int .i64 r.ten, .int .u64 r.qk, .int .u64 r.qb, .int .u8 r.rts]
theorem litsR_inj {q r : Req} (h : litsR q = litsR r) : q = r := by
 obtain ⟨⟩ := q
 obtain ⟨⟩ := r
 simp only [litsR, List.cons.injEq, Lit.int.injEq, Lit.string.injEq, true_and, and_true] at h
 obtain ⟨h1, h2, h3, h4, h5, h6, h7, h8, h9, h10, h11, h12⟩ := h
 subst h1 h2 h3 h4 h5 h6 h7 h8 h9 h10 h11 h12
 rfl
theorem key39 : Tryz.prog.keyTypeAt 4 39 = true := by kernel_rfl
theorem lits_int {P : Program} {d : Nat} {t : TypeId} {k : IntKind} (hu : P.underlying t = some (.int k)) (n : Int) (h : (Lit.int k n).wf = true) : P.keyLits (d + 1) t [.int k n] = some [.int k n] := by
 simp [Program.keyLits, hu, h]
theorem lits_str {P : Program} {d : Nat} {t : TypeId} (hu : P.underlying t = some .string) (l : List UInt8) (h : l.length ≤ 9223372036854775807) : P.keyLits (d + 1) t [strV l] = some [.string l] := by
 have : (ByteArray.mk l.toArray).size ≤ maxLen := by unfold maxLen; simpa [ByteArray.size] using h
 simp [Program.keyLits, hu, strV, this]
set_option maxRecDepth 100000 in
theorem lits_req (r : Req) (h : r.wf) : Tryz.prog.keyLits 5 39 (reqA r).toList = some (litsR r) := by
 have c34 : Tryz.prog.keyLits 4 34 [.int .i64 r.ht, .int .u32 r.hg, .int .u8 r.hr] = some [.int .i64 r.ht, .int .u32 r.hg, .int .u8 r.hr] := by
  have a1 := lits_int (P := Tryz.prog) (d := 2) Tryz.underlying3 r.ht h.ht
  have a2 := lits_int (P := Tryz.prog) (d := 2) Tryz.underlying31 r.hg h.hg
  have a3 := lits_int (P := Tryz.prog) (d := 2) Tryz.underlying32 r.hr h.hr
  have n3 : Tryz.prog.cellsOf 3 = 1 := by kernel_rfl
  have n31 : Tryz.prog.cellsOf 31 = 1 := by kernel_rfl
  have n32 : Tryz.prog.cellsOf 32 = 1 := by kernel_rfl
  have n34 : Tryz.prog.cellsOf 34 = 3 := by kernel_rfl
  unfold Program.keyLits
  simp only [Tryz.underlying34]
  simp [n3, n31, n32, n34, a1, a2, a3]
 have c37 : Tryz.prog.keyLits 4 37 [.int .u64 r.qk, .int .u64 r.qb] = some [.int .u64 r.qk, .int .u64 r.qb] := by
  have a1 := lits_int (P := Tryz.prog) (d := 2) Tryz.underlying35 r.qk h.qk
  have a2 := lits_int (P := Tryz.prog) (d := 2) Tryz.underlying35 r.qb h.qb
  have n35 : Tryz.prog.cellsOf 35 = 1 := by kernel_rfl
  have n37 : Tryz.prog.cellsOf 37 = 2 := by kernel_rfl
  unfold Program.keyLits
  simp only [Tryz.underlying37]
  simp [n35, n37, a1, a2]
 have a30 := lits_int (P := Tryz.prog) (d := 3) Tryz.underlying30 r.deed h.deed
 have a5 := lits_str (P := Tryz.prog) (d := 3) Tryz.underlying9 r.key h.key
 have a6 := lits_str (P := Tryz.prog) (d := 3) Tryz.underlying9 r.val h.val
 have a7 := lits_str (P := Tryz.prog) (d := 3) Tryz.underlying9 r.old h.old
 have a8 := lits_int (P := Tryz.prog) (d := 3) Tryz.underlying3 r.lim h.lim
 have a9 := lits_int (P := Tryz.prog) (d := 3) Tryz.underlying3 r.ten h.ten
 have a12 := lits_int (P := Tryz.prog) (d := 3) Tryz.underlying32 r.rts h.rts
 have n3 : Tryz.prog.cellsOf 3 = 1 := by kernel_rfl
 have n9 : Tryz.prog.cellsOf 9 = 1 := by kernel_rfl
 have n30 : Tryz.prog.cellsOf 30 = 1 := by kernel_rfl
 have n32 : Tryz.prog.cellsOf 32 = 1 := by kernel_rfl
 have n34 : Tryz.prog.cellsOf 34 = 3 := by kernel_rfl
 have n37 : Tryz.prog.cellsOf 37 = 2 := by kernel_rfl
 have n39 : Tryz.prog.cellsOf 39 = 12 := by kernel_rfl
 unfold Program.keyLits
 simp only [Tryz.underlying39]
 simp [reqA, n3, n9, n30, n32, n34, n37, n39, c34, c37, a30, a5, a6, a7, a8, a9, a12, litsR]
theorem eq_req (q r : Req) (hq : q.wf) (hr : r.wf) (w : World) : ∃ b : Bool, (binOp .neq 39 (reqV q) (reqV r)).run Tryz.prog w = .ok (.bool (!b)) w ∧ (b = true ↔ q = r) := by
 obtain ⟨b, h1, h2⟩ := run_equalIn_deep (P := Tryz.prog) 9996 4 39 key39 w 5 5 (reqV q) (reqV r) (litsR q) (litsR r) (by kernel_rfl) (by kernel_rfl) (lits_req q hq) (lits_req r hr)
 refine ⟨b, ?_, h2.trans ⟨litsR_inj, fun h => by rw [h]⟩⟩
 unfold reqV at h1 ⊢
 rw [run_neq_struct, h1]
 rfl
end Go.Proofs.YtkbedajbbakihaaGreatDoor
