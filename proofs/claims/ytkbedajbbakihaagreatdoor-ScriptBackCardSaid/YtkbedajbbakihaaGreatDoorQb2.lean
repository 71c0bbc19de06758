/-
 Texts of this proof, put together (SqZ, Rq): each part's first words say what it holds. Conditions: as each part says.
-/
import Derived.Lib.SplitLaws
import Derived.Lib.Join
import Derived.Test.YtkbedajbbakihaaGreatDoorQb1
import Derived.Test.YtkbedajbbakihaaGreatDoorQa1
/-
 Plain: a text's words at its spaces, and words put together. Conditions: none.
-/
namespace Go.Proofs.YtkbedajbbakihaaGreatDoor
open Go.Lib

/-! ### words at spaces -/
def spl : List UInt8 → List (List UInt8)
 | [] => [[]]
 | c :: r => if c = 32 then [] :: spl r else match spl r with
  | [] => [[c]]
  | h :: t => (c :: h) :: t
theorem spl_sp (r : List UInt8) : spl (32 :: r) = [] :: spl r := by simp [spl]
theorem spl_ch (c : UInt8) (h : c ≠ 32) (r a : List UInt8) (t : List (List UInt8)) (e : spl r = a :: t) : spl (c :: r) = (c :: a) :: t := by
 rw [spl, if_neg h, e]
theorem spl_ex (l : List UInt8) : ∃ a t, spl l = a :: t := by
 cases l with
 | nil => exact ⟨[], [], rfl⟩
 | cons c r =>
  by_cases h : c = 32
  ·subst h; exact ⟨_, _, spl_sp r⟩
  ·obtain ⟨a, t, e⟩ := spl_ex r
   exact ⟨_, _, spl_ch c h r a t e⟩
theorem splitK_spl : ∀ l : List UInt8, splitK [32] 0 (l.count 32) l = spl l
 | [] => rfl
 | c :: r => by
  have ih := splitK_spl r
  by_cases h : c = 32
  ·subst h
   have hix : index (32 :: r) [32] = 0 := by rw [index]; simp [List.isPrefixOf]
   rw [List.count_cons_self, splitK, hix, if_neg (by decide), spl_sp, ← ih]
   rfl
  ·rw [List.count_cons_of_ne (by simpa using h)]
   obtain ⟨a, t, e⟩ := spl_ex r
   rw [spl_ch c h r a t e]
   rw [e] at ih
   cases hk : r.count 32 with
   | zero =>
    rw [hk, splitK] at ih
    injection ih with h1 h2
    subst h1 h2
    rfl
   | succ k =>
    rw [hk] at ih
    have hp : ([32] : List UInt8).isPrefixOf (c :: r) = false := by simp [List.isPrefixOf, Ne.symm h]
    have hix : index (c :: r) [32] = if index r [32] == -1 then -1 else index r [32] + 1 := by rw [index, hp]; simp
    by_cases hm : index r [32] = -1
    ·have := count_miss hm
     rw [count_one] at this
     omega
    ·have hge := index_ge r [32]
     obtain ⟨j, hj⟩ : ∃ j : Nat, index r [32] = j := ⟨(index r [32]).toNat, by omega⟩
     have hb1 : (index r [32] == -1) = false := by simp [hm]
     have hix' : index (c :: r) [32] = ((j + 1 : Nat) : Int) := by rw [hix, hb1, hj]; simp
     have hb2 : (index (c :: r) [32] == -1) = false := by rw [hix']; simp; omega
     rw [splitK, hb1, if_neg (by simp), hj] at ih
     rw [splitK, hb2, if_neg (by simp), hix']
     simp only [Int.toNat_natCast, Nat.add_zero, List.length_cons, List.length_nil] at ih ⊢
     injection ih with h1 h2
     rw [List.take_succ_cons, h1, show j + 1 + (0 + 1) = (j + (0 + 1)) + 1 by omega, List.drop_succ_cons, h2]
theorem spl_len (l : List UInt8) : (spl l).length = l.count 32 + 1 := by
 induction l with
 | nil => rfl
 | cons c r ih =>
  by_cases h : c = 32
  ·subst h; rw [spl_sp, List.count_cons_self, List.length_cons, ih]
  ·obtain ⟨a, t, e⟩ := spl_ex r
   rw [spl_ch c h r a t e, List.count_cons_of_ne (by simpa using h), ← ih, e]; rfl
/-- the letters of the words and the spaces between them -/
def sumL (ws : List (List UInt8)) : Nat := (ws.map List.length).sum
theorem spl_sum (l : List UInt8) : sumL (spl l) + l.count 32 = l.length := by
 induction l with
 | nil => rfl
 | cons c r ih =>
  by_cases h : c = 32
  ·subst h; rw [spl_sp, List.count_cons_self]; simp only [sumL, List.map_cons, List.sum_cons, List.length_nil, List.length_cons] at ih ⊢; omega
  ·obtain ⟨a, t, e⟩ := spl_ex r
   rw [e] at ih
   rw [spl_ch c h r a t e, List.count_cons_of_ne (by simpa using h)]
   simp only [sumL, List.map_cons, List.sum_cons, List.length_cons] at ih ⊢; omega

/-! ### words put together -/
def jn : List (List UInt8) → List UInt8
 | [] => []
 | [a] => a
 | a :: b :: t => a ++ 32 :: jn (b :: t)
theorem join_jn (ws : List (List UInt8)) : Lib.join ws [32] = jn ws := by
 induction ws with
 | nil => rfl
 | cons a t ih =>
  cases t with
  | nil => simp [jn, Lib.join_one]
  | cons b t =>
   rw [jn, ← ih, Lib.join_cons, Lib.join_cons]
   simp [Lib.joinTail]
theorem spl_none (a : List UInt8) (h : (32 : UInt8) ∉ a) : spl a = [a] := by
 induction a with
 | nil => rfl
 | cons c a ih =>
  exact spl_ch c (fun e => h (by rw [e]; exact List.mem_cons_self)) a a [] (ih fun hm => h (List.mem_cons_of_mem _ hm))
theorem spl_app (a r : List UInt8) (h : (32 : UInt8) ∉ a) : spl (a ++ 32 :: r) = a :: spl r := by
 induction a with
 | nil => exact spl_sp r
 | cons c a ih =>
  exact spl_ch c (fun e => h (by rw [e]; exact List.mem_cons_self)) (a ++ 32 :: r) a (spl r) (ih fun hm => h (List.mem_cons_of_mem _ hm))
theorem spl_jn (ws : List (List UInt8)) (hne : ws ≠ []) (h : ∀ w ∈ ws, (32 : UInt8) ∉ w) : spl (jn ws) = ws := by
 induction ws with
 | nil => exact absurd rfl hne
 | cons a t ih =>
  cases t with
  | nil => exact spl_none a (h a List.mem_cons_self)
  | cons b t =>
   rw [jn, spl_app a _ (h a List.mem_cons_self), ih (by simp) fun w hw => h w (List.mem_cons_of_mem _ hw)]
theorem jn_len (ws : List (List UInt8)) : (jn ws).length ≤ sumL ws + ws.length := by
 induction ws with
 | nil => simp [jn]
 | cons a t ih =>
  cases t with
  | nil => simp [jn, sumL]
  | cons b t =>
   simp only [jn, List.length_append, List.length_cons, sumL, List.map_cons, List.sum_cons] at ih ⊢
   omega
end Go.Proofs.YtkbedajbbakihaaGreatDoor

/-
 Requests and their lines, plainly: what a line of words says, what a request's line is, and that it is read back. Conditions: none.
-/
namespace Go.Proofs.YtkbedajbbakihaaGreatDoor
open Go.Lib
set_option linter.unusedSimpArgs false
set_option linter.unusedVariables false

/-- a request -/
structure Req where
 deed : Int
 ht : Int
 hg : Int
 hr : Int
 key : List UInt8
 val : List UInt8
 old : List UInt8
 lim : Int
 ten : Int
 qk : Int
 qb : Int
 rts : Int
def req0 : Req := ⟨0, 0, 0, 0, [], [], [], 0, 0, 0, 0, 0⟩
/-- the fields that lines name -/
inductive Fld where
 | hdl | key | val | old | lim | ten | qk | qb | rts
def fldsN : Nat → List Fld
 | 1 => [.hdl, .key]
 | 2 => [.hdl, .key, .val]
 | 3 => [.hdl, .key]
 | 4 => [.hdl, .key, .old, .val]
 | 5 => [.hdl, .key, .lim]
 | 6 => [.hdl]
 | 7 => [.ten, .qk, .qb]
 | 8 => [.ten]
 | 9 => [.ten, .rts]
 | 10 => [.ten]
 | _ => []
def nameN : Nat → List UInt8
 | 1 => [103, 101, 116]
 | 2 => [112, 117, 116]
 | 3 => [100, 101, 108, 101, 116, 101]
 | 4 => [115, 119, 97, 112]
 | 5 => [115, 99, 97, 110]
 | 6 => [116, 101, 108, 108]
 | 7 => [99, 114, 101, 97, 116, 101]
 | 8 => [114, 101, 109, 111, 118, 101]
 | 9 => [105, 115, 115, 117, 101]
 | 10 => [114, 101, 118, 111, 107, 101]
 | _ => []
/-- the deed that a word names -/
def deedW (w : List UInt8) : Option Nat := (List.range' 1 10).find? fun d => decide (nameN d = w)

/-! ### handles in texts -/
def IsH (l : List UInt8) (x : Int × Int × Int) : Prop := ∃ t g : Nat, x.1 = t ∧ x.2.1 = g ∧ okH t g x.2.2 = true ∧ g ≤ 4294967295 ∧ l = showH t g x.2.2
open Classical in
noncomputable def rdH (l : List UInt8) : Option (Int × Int × Int) := if h : ∃ x, IsH l x then some (Classical.choose h) else none
theorem IsH.unique {l : List UInt8} {x y : Int × Int × Int} (h : IsH l x) (k : IsH l y) : x = y := by
 obtain ⟨t, g, h1, h2, h3, h4, h5⟩ := h
 obtain ⟨t', g', k1, k2, k3, k4, k5⟩ := k
 obtain ⟨e1, e2, e3⟩ := showH_inj h3 k3 h4 k4 (h5.symm.trans k5)
 obtain ⟨a, b, c⟩ := x
 obtain ⟨a', b', c'⟩ := y
 simp only at h1 h2 h3 h5 k1 k2 k3 k5 e3
 rw [h1, h2, k1, k2, e1, e2, e3]
theorem rdH_iff (l : List UInt8) (x : Int × Int × Int) : rdH l = some x ↔ IsH l x := by
 unfold rdH
 constructor
 ·intro h
  split at h
  ·rename_i hx
   cases h
   exact Classical.choose_spec hx
  ·cases h
 ·intro h
  have hx : ∃ x, IsH l x := ⟨x, h⟩
  rw [dif_pos hx, IsH.unique (Classical.choose_spec hx) h]
theorem rdH_none (l : List UInt8) (h : rdH l = none) (t g : Nat) (r : Int) (ho : okH t g r = true) (hg : g ≤ 4294967295) : l ≠ showH t g r := fun e => by
 have := (rdH_iff l (t, g, r)).2 ⟨t, g, rfl, rfl, ho, hg, e⟩
 rw [h] at this
 cases this
/-- how handle.Read ends -/
theorem rdH_end (l : List UInt8) : (∃ x y z, rdH l = some (x, y, z) ∧ ReadEnd l x y z 0) ∨ (rdH l = none ∧ ReadEnd l 0 0 0 7) := by
 cases h : rdH l with
 | none => exact .inr ⟨rfl, .inr ⟨rfl, rfl, rfl, rfl, rdH_none l h⟩⟩
 | some x =>
  obtain ⟨t, g, h1, h2, h3, h4, h5⟩ := (rdH_iff l x).1 h
  exact .inl ⟨x.1, x.2.1, x.2.2, rfl, .inl ⟨t, g, h1, h2, h3, h4, h5, rfl⟩⟩
theorem rdH_show (t g : Nat) (r : Int) (ho : okH t g r = true) (hg : g ≤ 4294967295) : rdH (showH t g r) = some ((t : Int), (g : Int), r) :=
 (rdH_iff _ _).2 ⟨t, g, rfl, rfl, ho, hg, rfl⟩
theorem showH_11 (r : Int) : showH 1 1 r = 49 :: 46 :: 49 :: 46 :: lettersR r := by
 rw [showH, Lib.decDigits_one (by omega)]
 rfl

/-! ### reading -/
noncomputable def stepF (f : Fld) (w : List UInt8) (r : Req) : Option Req :=
 match f with
 | .hdl => (rdH w).map fun x => { r with ht := x.1, hg := x.2.1, hr := x.2.2 }
 | .key => (unword w).map fun x => { r with key := x }
 | .val => (unword w).map fun x => { r with val := x }
 | .old => (unword w).map fun x => { r with old := x }
 | .lim => (num w).map fun x => { r with lim := x }
 | .ten => (num w).map fun x => { r with ten := x }
 | .qk => (lrg w).map fun (x : Nat) => { r with qk := (x : Int) }
 | .qb => (lrg w).map fun (x : Nat) => { r with qb := (x : Int) }
 | .rts => (rdH (49 :: 46 :: 49 :: 46 :: w)).map fun x => { r with rts := x.2.2 }
noncomputable def foldF : List Fld → List (List UInt8) → Req → Option Req
 | [], [], r => some r
 | f :: fs, w :: ws, r => (stepF f w r).bind (foldF fs ws)
 | _, _, _ => none
/-- what the words of a line say -/
noncomputable def readR : List (List UInt8) → Option Req
 | [] => none
 | w :: ws => (deedW w).bind fun d => foldF (fldsN d) ws { req0 with deed := (d : Int) }

/-! ### writing -/
def setF (f : Fld) (r s : Req) : Req :=
 match f with
 | .hdl => { s with ht := r.ht, hg := r.hg, hr := r.hr }
 | .key => { s with key := r.key }
 | .val => { s with val := r.val }
 | .old => { s with old := r.old }
 | .lim => { s with lim := r.lim }
 | .ten => { s with ten := r.ten }
 | .qk => { s with qk := r.qk }
 | .qb => { s with qb := r.qb }
 | .rts => { s with rts := r.rts }
def shF (f : Fld) (r : Req) : Option (List UInt8) :=
 match f with
 | .hdl => if okH r.ht r.hg r.hr then some (showH r.ht.toNat r.hg.toNat r.hr) else none
 | .key => some (word r.key)
 | .val => some (word r.val)
 | .old => some (word r.old)
 | .lim => some (Lib.itoa r.lim)
 | .ten => if 0 ≤ r.ten ∧ r.ten ≤ 999999999 then some (Lib.itoa r.ten) else none
 | .qk => some (Lib.decDigits r.qk.toNat)
 | .qb => some (Lib.decDigits r.qb.toNat)
 | .rts => if okH 1 1 r.rts then some (lettersR r.rts) else none
def shFs (r : Req) : List Fld → Option (List (List UInt8))
 | [] => some []
 | f :: fs => (shF f r).bind fun w => (shFs r fs).map (w :: ·)
/-- the deed's number where there is such a deed -/
def deedN (d : Int) : Option Nat := if 1 ≤ d ∧ d ≤ 10 then some d.toNat else none
/-- the line of a request as the program puts it together -/
def lineP (r : Req) : Option (List (List UInt8)) := (deedN r.deed).bind fun d => (shFs r (fldsN d)).map (nameN d :: ·)
open Classical in
/-- the program's text of a request -/
noncomputable def showP (r : Req) : Option (List UInt8) :=
 match lineP r with
 | some ws => if readR (spl (jn ws)) = some r then some (jn ws) else none
 | none => none
/-- a request with those fields alone that its line says -/
def bare (r : Req) : Req := match deedN r.deed with
 | some d => (fldsN d).foldl (fun s f => setF f r s) { req0 with deed := r.deed }
 | none => r
/-- the reference's: the limit must be small -/
def limOk (r : Req) : Prop := r.deed = 5 → 0 ≤ r.lim ∧ r.lim ≤ 999999999
open Classical in
noncomputable def showQ (r : Req) : Option (List UInt8) :=
 match lineP r with
 | some ws => if bare r = r ∧ limOk r then some (jn ws) else none
 | none => none

/-- numbers within their types -/
structure Req.ok (r : Req) : Prop where
 hg : 0 ≤ r.hg ∧ r.hg ≤ 4294967295
 qk : 0 ≤ r.qk ∧ r.qk ≤ 18446744073709551615
 qb : 0 ≤ r.qb ∧ r.qb ≤ 18446744073709551615
 lim : -9223372036854775808 ≤ r.lim ∧ r.lim ≤ 9223372036854775807

theorem step_sh (f : Fld) (r s : Req) (hr : r.ok) (w : List UInt8) (h : shF f r = some w) :
  (f = .lim ∧ ¬ (0 ≤ r.lim ∧ r.lim ≤ 999999999) ∧ stepF f w s = none) ∨ ((f = .lim → 0 ≤ r.lim ∧ r.lim ≤ 999999999) ∧ stepF f w s = some (setF f r s)) := by
 cases f with
 | hdl =>
  refine .inr ⟨(fun h => by cases h), ?_⟩
  simp only [shF] at h
  split at h
  ·rename_i ho
   cases h
   have h1 := (okH_iff _ _ _).1 ho
   have e1 : ((r.ht.toNat : Nat) : Int) = r.ht := by omega
   have e2 : ((r.hg.toNat : Nat) : Int) = r.hg := by omega
   have h2 := rdH_show r.ht.toNat r.hg.toNat r.hr (by rw [e1, e2]; exact ho) (by have := hr.hg; omega)
   rw [e1, e2] at h2
   simp only [stepF, h2, Option.map_some, setF]
  ·cases h
 | key => refine .inr ⟨(fun h => by cases h), ?_⟩; cases h; simp only [stepF, unword_word, Option.map_some, setF]
 | val => refine .inr ⟨(fun h => by cases h), ?_⟩; cases h; simp only [stepF, unword_word, Option.map_some, setF]
 | old => refine .inr ⟨(fun h => by cases h), ?_⟩; cases h; simp only [stepF, unword_word, Option.map_some, setF]
 | lim =>
  cases h
  by_cases hl : 0 ≤ r.lim ∧ r.lim ≤ 999999999
  ·refine .inr ⟨fun _ => hl, ?_⟩
   simp only [stepF, num_itoa _ hl.1 hl.2, Option.map_some, setF]
  ·refine .inl ⟨rfl, hl, ?_⟩
   have hn : num (Lib.itoa r.lim) = none := by
    cases h : num (Lib.itoa r.lim) with
    | none => rfl
    | some v =>
     obtain ⟨k1, k2⟩ := (num_iff _ _).1 h
     have : r.lim = v := by
      have h3 := pk_itoa r.lim hr.lim.1 hr.lim.2
      rw [k2, pk_itoa v (by omega) (by omega)] at h3
      exact (Option.some.inj h3).symm
     exact absurd (this ▸ k1) hl
   simp only [stepF, hn, Option.map_none]
 | ten =>
  refine .inr ⟨(fun h => by cases h), ?_⟩
  simp only [shF] at h
  split at h
  ·rename_i ho
   cases h
   simp only [stepF, num_itoa _ ho.1 ho.2, Option.map_some, setF]
  ·cases h
 | qk =>
  refine .inr ⟨(fun h => by cases h), ?_⟩
  cases h
  have e : ((r.qk.toNat : Nat) : Int) = r.qk := by have := hr.qk; omega
  simp only [stepF, lrg_digits r.qk.toNat (by have := hr.qk; omega), Option.map_some, setF, e]
 | qb =>
  refine .inr ⟨(fun h => by cases h), ?_⟩
  cases h
  have e : ((r.qb.toNat : Nat) : Int) = r.qb := by have := hr.qb; omega
  simp only [stepF, lrg_digits r.qb.toNat (by have := hr.qb; omega), Option.map_some, setF, e]
 | rts =>
  refine .inr ⟨(fun h => by cases h), ?_⟩
  simp only [shF] at h
  split at h
  ·rename_i ho
   cases h
   have h2 := rdH_show 1 1 r.rts ho (by omega)
   rw [showH_11] at h2
   simp only [stepF, h2, Option.map_some, setF]
  ·cases h
/-- has the list the limit? -/
def hasLim : List Fld → Bool
 | [] => false
 | .lim :: _ => true
 | _ :: fs => hasLim fs
theorem fold_sh (r : Req) (hr : r.ok) (fs : List Fld) : ∀ (ws : List (List UInt8)) (s : Req), shFs r fs = some ws →
  foldF fs ws s = if hasLim fs = true ∧ ¬ (0 ≤ r.lim ∧ r.lim ≤ 999999999) then none else some (fs.foldl (fun s f => setF f r s) s) := by
 induction fs with
 | nil => intro ws s h; cases h; rfl
 | cons f fs ih =>
  intro ws s h
  rw [shFs] at h
  cases hf : shF f r with
  | none => rw [hf] at h; cases h
  | some w =>
   rw [hf, Option.bind_some] at h
   cases hfs : shFs r fs with
   | none => rw [hfs] at h; cases h
   | some vs =>
    rw [hfs] at h
    cases h
    rw [foldF]
    rcases step_sh f r s hr w hf with ⟨h1, h2, h3⟩ | ⟨h1, h3⟩
    ·rw [h3, h1, if_pos ⟨rfl, h2⟩]; rfl
    ·rw [h3, Option.bind_some, ih vs _ hfs, List.foldl_cons]
     by_cases hl : f = .lim
     ·have := h1 hl
      subst hl
      rw [if_neg (by simp [this]), if_neg (by simp [this])]
     ·have : hasLim (f :: fs) = hasLim fs := by cases f <;> first | rfl | exact absurd rfl hl
      rw [this]

theorem wordB_no (c : UInt8) : (32 : UInt8) ∉ wordB c := by
 have hall : ((List.range 256).all fun k => !(wordB (UInt8.ofNat k)).contains 32) = true := by kernel_rfl
 have h1 := List.all_eq_true.1 hall c.toNat (List.mem_range.2 c.toNat_lt)
 rw [UInt8.ofNat_toNat] at h1
 simpa using h1
theorem word_no (l : List UInt8) : (32 : UInt8) ∉ word l := by
 unfold word
 split
 ·simp
 ·rw [List.mem_flatMap]
  rintro ⟨c, _, hc⟩
  exact wordB_no c hc
theorem lettersR_32 (r : Int) : (32 : UInt8) ∉ lettersR r := by
 unfold lettersR
 simp only [List.mem_append, not_or]
 refine ⟨?_, ?_, ?_⟩ <;> (split <;> simp)
theorem showH_32 (t g : Nat) (r : Int) : (32 : UInt8) ∉ showH t g r := by
 unfold showH
 simp only [List.mem_append, List.mem_cons, not_or]
 exact ⟨decDigits_no t 32 (by decide), by decide, decDigits_no g 32 (by decide), by decide, lettersR_32 r⟩
theorem shF_no (f : Fld) (r : Req) (w : List UInt8) (h : shF f r = some w) : (32 : UInt8) ∉ w := by
 cases f with
 | hdl =>
  simp only [shF] at h
  split at h
  ·cases h; exact showH_32 _ _ _
  ·cases h
 | key => cases h; exact word_no _
 | val => cases h; exact word_no _
 | old => cases h; exact word_no _
 | lim => cases h; exact itoa_no _ _ (by decide)
 | ten =>
  simp only [shF] at h
  split at h
  ·cases h; exact itoa_no _ _ (by decide)
  ·cases h
 | qk => cases h; exact decDigits_no _ _ (by decide)
 | qb => cases h; exact decDigits_no _ _ (by decide)
 | rts =>
  simp only [shF] at h
  split at h
  ·cases h; exact lettersR_32 _
  ·cases h
theorem shFs_no (r : Req) (fs : List Fld) : ∀ ws, shFs r fs = some ws → ∀ w ∈ ws, (32 : UInt8) ∉ w := by
 induction fs with
 | nil => intro ws h; cases h; simp
 | cons f fs ih =>
  intro ws h
  rw [shFs] at h
  cases hf : shF f r with
  | none => rw [hf] at h; cases h
  | some w =>
   rw [hf, Option.bind_some] at h
   cases hfs : shFs r fs with
   | none => rw [hfs] at h; cases h
   | some vs =>
    rw [hfs] at h
    cases h
    intro x hx
    rcases List.mem_cons.1 hx with rfl | hx
    ·exact shF_no f r x hf
    ·exact ih vs hfs x hx
theorem deedN_of {d : Int} {n : Nat} (h : deedN d = some n) : (n : Int) = d ∧ 1 ≤ n ∧ n ≤ 10 := by
 unfold deedN at h
 split at h
 ·cases h; omega
 ·cases h
theorem ten_cases {n : Nat} (h : 1 ≤ n ∧ n ≤ 10) : n = 1 ∨ n = 2 ∨ n = 3 ∨ n = 4 ∨ n = 5 ∨ n = 6 ∨ n = 7 ∨ n = 8 ∨ n = 9 ∨ n = 10 := by omega
theorem nameN_no (n : Nat) (h : 1 ≤ n ∧ n ≤ 10) : (32 : UInt8) ∉ nameN n := by
 rcases ten_cases h with rfl | rfl | rfl | rfl | rfl | rfl | rfl | rfl | rfl | rfl <;> decide
theorem deedW_name (n : Nat) (h : 1 ≤ n ∧ n ≤ 10) : deedW (nameN n) = some n := by
 rcases ten_cases h with rfl | rfl | rfl | rfl | rfl | rfl | rfl | rfl | rfl | rfl <;> decide
theorem deedW_of {w : List UInt8} {n : Nat} (h : deedW w = some n) : (1 ≤ n ∧ n ≤ 10) ∧ w = nameN n := by
 unfold deedW at h
 have h1 := List.find?_some h
 have h2 := List.mem_of_find?_eq_some h
 rw [List.mem_range'] at h2
 obtain ⟨i, hi, rfl⟩ := h2
 exact ⟨by omega, (of_decide_eq_true h1).symm⟩
theorem hasLim_flds (n : Nat) (h : 1 ≤ n ∧ n ≤ 10) : hasLim (fldsN n) = decide (n = 5) := by
 rcases ten_cases h with rfl | rfl | rfl | rfl | rfl | rfl | rfl | rfl | rfl | rfl <;> rfl
/-- the line of a request is read back, bare -/
theorem read_line (r : Req) (hr : r.ok) (ws : List (List UInt8)) (h : lineP r = some ws) :
  spl (jn ws) = ws ∧ ((limOk r ∧ readR ws = some (bare r)) ∨ (¬ limOk r ∧ readR ws = none)) := by
 unfold lineP at h
 cases hd : deedN r.deed with
 | none => rw [hd] at h; cases h
 | some d =>
  obtain ⟨h1, h2⟩ := deedN_of hd
  rw [hd, Option.bind_some] at h
  cases hf : shFs r (fldsN d) with
  | none => rw [hf] at h; cases h
  | some vs =>
   rw [hf] at h
   cases h
   refine ⟨spl_jn _ (by simp) ?_, ?_⟩
   ·intro w hw
    rcases List.mem_cons.1 hw with rfl | hw
    ·exact nameN_no d h2
    ·exact shFs_no r _ vs hf w hw
   ·have hb : bare r = (fldsN d).foldl (fun s f => setF f r s) { req0 with deed := (d : Int) } := by
     unfold bare
     rw [hd, h1]
    have hl : limOk r ↔ ¬ (hasLim (fldsN d) = true ∧ ¬ (0 ≤ r.lim ∧ r.lim ≤ 999999999)) := by
     unfold limOk
     rw [hasLim_flds d h2, ← h1]
     simp only [decide_eq_true_eq]
     constructor
     ·rintro h ⟨rfl, h3⟩
      exact h3 (h rfl)
     ·intro h h3
      exact Classical.not_not.1 fun h4 => h ⟨by omega, h4⟩
    rw [readR, deedW_name d h2, Option.bind_some, fold_sh r hr _ vs _ hf, ← hb]
    by_cases hk : limOk r
    ·exact .inl ⟨hk, by rw [if_neg (hl.1 hk)]⟩
    ·exact .inr ⟨hk, by rw [if_pos (Classical.not_not.1 fun h => hk (hl.2 h))]⟩
/-- the program's text of a request and the reference's are one -/
theorem showP_eq (r : Req) (hr : r.ok) : showP r = showQ r := by
 unfold showP showQ
 cases h : lineP r with
 | none => rfl
 | some ws =>
  simp only
  obtain ⟨h1, h2⟩ := read_line r hr ws h
  rw [h1]
  rcases h2 with ⟨h2, h3⟩ | ⟨h2, h3⟩
  ·rw [h3]
   by_cases hb : bare r = r
   ·rw [if_pos (by rw [hb]), if_pos ⟨hb, h2⟩]
   ·rw [if_neg (fun h => hb (Option.some.inj h)), if_neg (fun h => hb h.1)]
  ·rw [h3, if_neg (by simp), if_neg (fun h => h2 h.2)]
theorem showP_back {r : Req} {t : List UInt8} (h : showP r = some t) : readR (spl t) = some r := by
 unfold showP at h
 split at h
 ·split at h
  ·rename_i hb
   cases h
   exact hb
  ·cases h
 ·cases h
end Go.Proofs.YtkbedajbbakihaaGreatDoor
