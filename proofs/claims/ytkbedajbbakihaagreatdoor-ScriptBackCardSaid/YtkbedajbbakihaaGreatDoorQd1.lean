/-
 Texts of this proof, put together (SkZ, PkZ): each part's first words say what it holds. Conditions: as each part says.
-/
import Derived.Test.YtkbedajbbakihaaGreatDoorQd
import Derived.Test.YtkbedajbbakihaaGreatDoorQc1
import Derived.Shelf.Strconv.ParseIntPublic10
/-
 The words of a request's line, one by one: what forms' helpers return. Conditions: the strings have at most 10^9 bytes; the numbers are within their types; the listed variables read as laid.
-/
namespace Go.Proofs.YtkbedajbbakihaaGreatDoor
open Go.RowKit Go.Sort Go.Lib
set_option linter.unusedSimpArgs false
set_option linter.unusedVariables false

/-- numbers within their types, strings not too long -/
structure Req.fit (r : Req) : Prop extends Req.ok r where
 hr : 0 ≤ r.hr ∧ r.hr ≤ 255
 rts : 0 ≤ r.rts ∧ r.rts ≤ 255
 ten : -9223372036854775808 ≤ r.ten ∧ r.ten ≤ 9223372036854775807
 ht : -9223372036854775808 ≤ r.ht ∧ r.ht ≤ 9223372036854775807
 deed : -9223372036854775808 ≤ r.deed ∧ r.deed ≤ 9223372036854775807
 len : r.key.length + r.val.length + r.old.length ≤ 5000000
/-- how making a word ends -/
def WdEnd (res : Option (List UInt8)) (w : World) (e : Ending) (w' : World) : Prop :=
 Later w w' ∧ match res with
  | none => e = wrongE
  | some x => e = .returned (strV x)
theorem itoa_is (n : Int) (h0 : -9223372036854775808 ≤ n) (h1 : n ≤ 9223372036854775807) (w : World) (hw : Laid w) :
  Calls Tryz.prog 69 #[.int .i64 n] w fun e w' => e = .returned (strV (Lib.itoa n)) ∧ Later w w' :=
 (Tryz.strconv_Itoa n h0 h1 w hw.1).mono fun e w' ⟨he, k, os, hg⟩ => ⟨he, by rw [hg]; exact later_grow w k os⟩
theorem fmtu_is (n : Int) (h0 : 0 ≤ n) (h1 : n ≤ 18446744073709551615) (w : World) (hw : Laid w) :
  Calls Tryz.prog 111 #[.int .u64 n, .int .i64 10] w fun e w' => e = .returned (strV (Lib.decDigits n.toNat)) ∧ Later w w' := by
 have := formatUint_any n.toNat (by omega) w hw.1
 rw [Int.toNat_of_nonneg h0] at this
 exact this
set_option maxRecDepth 100000 in
theorem key92 (r : Req) (h : r.key.length ≤ 1000000000) (w : World) : Calls Tryz.prog 92 #[reqV r] w (WdEnd (some (word r.key)) w) := by
 obtain ⟨D, hD⟩ : ∃ D, reqA r = D := ⟨_, rfl⟩
 obtain ⟨S, hS⟩ : ∃ S : ByteArray, S = ⟨r.key.toArray⟩ := ⟨_, rfl⟩
 obtain ⟨U, hU⟩ : ∃ U : ByteArray, U = ⟨(word r.key).toArray⟩ := ⟨_, rfl⟩
 have HW := Lib.hid (fun w1 => Word_l r.key h w1)
 have HL := Lib.hid (show Later w (w.alloc (.cells D 39)) from (Later.refl w).alloc _)
 have HF := Lib.hid (fun w' (hk : Later w w') => (show WdEnd (some (word r.key)) w (.returned (.string ⟨(word r.key).toArray⟩)) w' from ⟨hk, rfl⟩))
 have d4 : D[4]? = some (.string S) := by rw [← hD, hS]; rfl
 unfold reqV
 rw [← hS, ← hU] at HW
 rw [← hU] at HF
 rw [hD]
 clear hD hS hU
 go_enter Tryz.func92, Tryz.ntmps92
 go_wp2_with fail
 refine (HW.out _).mono ?_
 rintro e w1 ⟨rfl, hl⟩
 have HG := Lib.hid (HF.out _ (HL.out.trans hl))
 clear hl
 go_wp2_with fail
 go_ret
 exact HG.out
set_option maxRecDepth 100000 in
theorem held93 (r : Req) (hr : r.fit) (w : World) (hw : Laid w) : Calls Tryz.prog 93 #[reqV r] w (WdEnd (shF .hdl r) w) := by
 have hg := hr.hg
 obtain ⟨p, hp⟩ : ∃ p, r.ht = p := ⟨_, rfl⟩
 obtain ⟨q, hq⟩ : ∃ q, r.hg = q := ⟨_, rfl⟩
 obtain ⟨g, hg'⟩ : ∃ g, r.hr = g := ⟨_, rfl⟩
 obtain ⟨D, hD⟩ : ∃ D, reqA r = D := ⟨_, rfl⟩
 have d1 : D[1]? = some (.int .i64 p) := by rw [← hD, ← hp]; rfl
 have d2 : D[2]? = some (.int .u32 q) := by rw [← hD, ← hq]; rfl
 have d3 : D[3]? = some (.int .u8 g) := by rw [← hD, ← hg']; rfl
 have HL := Lib.hid (show Later w (w.alloc (.cells D 39)) from (Later.refl w).alloc _)
 have HLW := Lib.hid (hw.later HL.out)
 unfold reqV
 rw [hD]
 simp only [shF, hp, hq, hg']
 by_cases ho : okH p q g = true
 ·rw [if_pos ho]
  have h1 := (okH_iff _ _ _).1 ho
  have e1 : ((p.toNat : Nat) : Int) = p := by omega
  have e2 : ((q.toNat : Nat) : Int) = q := by omega
  have hS := fun w1 (h9 : Laid w1) => Show_yes p.toNat q.toNat g w1 (by rw [e1, e2]; exact ho) (by omega) h9.1
  rw [e1, e2] at hS
  have HS := Lib.hid hS
  have HF := Lib.hid (fun w' (hk : Later w w') => (show WdEnd (some (showH p.toNat q.toNat g)) w (.returned (.string ⟨(showH p.toNat q.toNat g).toArray⟩)) w' from ⟨hk, rfl⟩))
  obtain ⟨U, hU⟩ : ∃ U : ByteArray, U = ⟨(showH p.toNat q.toNat g).toArray⟩ := ⟨_, rfl⟩
  rw [← hU] at HS HF
  clear hS hU ho h1 e1 e2 hp hq hg' hD hg hr hw
  go_enter Tryz.func93, Tryz.ntmps93
  go_wp2_with fail
  refine (HS.out _ HLW.out).mono ?_
  rintro e w1 ⟨rfl, hl⟩
  have HG := Lib.hid (HF.out _ (HL.out.trans hl))
  clear hl
  go_wp2_with fail
  refine (must_true _).mono ?_
  rintro e w2 ⟨rfl, rfl⟩
  go_wp2_with fail
  go_ret
  exact HG.out
 ·rw [if_neg ho]
  have ho' : okH p q g = false := by simpa using ho
  have HS := Lib.hid (fun w1 => Show_no p q g w1 ho')
  have HF := Lib.hid (fun w' (hk : Later w w') => (show WdEnd none w wrongE w' from ⟨hk, rfl⟩))
  clear ho ho' hp hq hg' hD hg hr hw
  go_enter Tryz.func93, Tryz.ntmps93
  go_wp2_with fail
  refine (HS.out _).mono ?_
  rintro e w1 ⟨rfl, hl⟩
  have HG := Lib.hid (HF.out _ (HL.out.trans hl))
  clear hl
  go_wp2_with fail
  refine (must_false _).mono ?_
  rintro e w2 ⟨rfl, rfl⟩
  go_wp2_with fail
  exact ⟨rfl, HG.out⟩
set_option maxRecDepth 100000 in
theorem ten94 (r : Req) (hr : r.fit) (w : World) (hw : Laid w) : Calls Tryz.prog 94 #[reqV r] w (WdEnd (shF .ten r) w) := by
 have ht := hr.ten
 obtain ⟨p, hp⟩ : ∃ p, r.ten = p := ⟨_, rfl⟩
 obtain ⟨D, hD⟩ : ∃ D, reqA r = D := ⟨_, rfl⟩
 have d8 : D[8]? = some (.int .i64 p) := by rw [← hD, ← hp]; rfl
 have HL := Lib.hid (show Later w (w.alloc (.cells D 39)) from (Later.refl w).alloc _)
 have HLW := Lib.hid (hw.later HL.out)
 unfold reqV
 rw [hD]
 simp only [shF, hp]
 rw [hp] at ht
 by_cases h0 : 0 ≤ p ∧ p ≤ 999999999
 ·rw [if_pos h0]
  obtain ⟨h1, h2⟩ := h0
  have HS := Lib.hid (fun w1 (h9 : Laid w1) => itoa_is p ht.1 ht.2 w1 h9)
  have HF := Lib.hid (fun w' (hk : Later w w') => (show WdEnd (some (Lib.itoa p)) w (.returned (strV (Lib.itoa p))) w' from ⟨hk, rfl⟩))
  unfold strV at HS HF
  obtain ⟨U, hU⟩ : ∃ U : ByteArray, U = ⟨(Lib.itoa p).toArray⟩ := ⟨_, rfl⟩
  rw [← hU] at HS HF
  have hd : decide (p ≤ 999999999) = true := by simpa using h2
  clear hU ht hp hD hr hw
  go_enter Tryz.func94, Tryz.ntmps94
  go_wp2_with fail
  refine (must_true _).mono ?_
  rintro e w2 ⟨rfl, rfl⟩
  go_wp2_with fail
  refine (HS.out _ HLW.out).mono ?_
  rintro e w1 ⟨rfl, hl⟩
  have HG := Lib.hid (HF.out _ (HL.out.trans hl))
  clear hl
  go_wp2_with fail
  go_ret
  exact HG.out
 ·rw [if_neg h0]
  have HF := Lib.hid (show WdEnd none w wrongE (w.alloc (.cells D 39)) from ⟨HL.out, rfl⟩)
  by_cases h1 : 0 ≤ p
  ·have hd : decide (p ≤ 999999999) = false := by simp; omega
   clear h0 hp hD ht hr hw
   go_enter Tryz.func94, Tryz.ntmps94
   go_wp2_with fail
   refine (must_false _).mono ?_
   rintro e w2 ⟨rfl, rfl⟩
   go_wp2_with fail
   exact ⟨rfl, HF.out⟩
  ·clear h0 hp hD ht hr hw
   go_enter Tryz.func94, Tryz.ntmps94
   go_wp2_with fail
   refine (must_false _).mono ?_
   rintro e w2 ⟨rfl, rfl⟩
   go_wp2_with fail
   exact ⟨rfl, HF.out⟩
set_option maxRecDepth 100000 in
theorem rts95 (r : Req) (hr : r.fit) (w : World) (hw : Laid w) : Calls Tryz.prog 95 #[reqV r] w (WdEnd (shF .rts r) w) := by
 obtain ⟨g, hg'⟩ : ∃ g, r.rts = g := ⟨_, rfl⟩
 obtain ⟨D, hD⟩ : ∃ D, reqA r = D := ⟨_, rfl⟩
 have d11 : D[11]? = some (.int .u8 g) := by rw [← hD, ← hg']; rfl
 have HL := Lib.hid (show Later w (w.alloc (.cells D 39)) from (Later.refl w).alloc _)
 have HLW := Lib.hid (hw.later HL.out)
 unfold reqV
 rw [hD]
 simp only [shF, hg']
 by_cases ho : okH 1 1 g = true
 ·rw [if_pos ho]
  have hS := fun w1 (h9 : Laid w1) => Show_yes 1 1 g w1 ho (by omega) h9.1
  have HS := Lib.hid (show ∀ w1, Laid w1 → Calls Tryz.prog 89 #[.agg #[.int .i64 1, .int .u32 1, .int .u8 g]] w1 fun e w' => e = .returned (.tuple #[.string ⟨(showH 1 1 g).toArray⟩, .int .i64 0]) ∧ Later w1 w' from hS)
  have HF := Lib.hid (fun w' (hk : Later w w') => (show WdEnd (some (lettersR g)) w (.returned (.string ⟨(lettersR g).toArray⟩)) w' from ⟨hk, rfl⟩))
  obtain ⟨U, hU⟩ : ∃ U : ByteArray, U = ⟨(showH 1 1 g).toArray⟩ := ⟨_, rfl⟩
  obtain ⟨V, hV⟩ : ∃ V : ByteArray, V = ⟨(lettersR g).toArray⟩ := ⟨_, rfl⟩
  have hs4 : 4 ≤ U.size := by
   rw [hU, showH_11]
   simp [ByteArray.size]
  have hex : U.extract 4 U.size = V := by
   rw [hU, hV, showH_11]
   apply ByteArray.ext
   simp [ByteArray.data_extract, ByteArray.size]
  have hsl : ∀ W : World, (Instr.slice 9 (.string U) (some (.int .i64 4)) none none).run Tryz.prog W = .ok (.string V) W := fun W => by
   rw [run_slice_string_l (P := Tryz.prog) W 9 U Tryz.underlying9 .i64 4 (by omega) (by omega)]
   rw [← hex]
   rfl
  rw [← hU] at HS
  rw [← hV] at HF
  clear hS hU hV hs4 hex ho hg' hD hr hw
  go_enter Tryz.func95, Tryz.ntmps95
  go_wp2_with fail
  refine (HS.out _ HLW.out).mono ?_
  rintro e w1 ⟨rfl, hl⟩
  have HG := Lib.hid (HF.out _ (HL.out.trans hl))
  clear hl
  go_wp2_with fail
  refine (must_true _).mono ?_
  rintro e w2 ⟨rfl, rfl⟩
  go_wp2_with fail
  go_ret
  exact HG.out
 ·rw [if_neg ho]
  have ho' : okH 1 1 g = false := by simpa using ho
  have HS := Lib.hid (fun w1 => Show_no 1 1 g w1 ho')
  have HF := Lib.hid (fun w' (hk : Later w w') => (show WdEnd none w wrongE w' from ⟨hk, rfl⟩))
  clear ho ho' hg' hD hr hw
  go_enter Tryz.func95, Tryz.ntmps95
  go_wp2_with fail
  refine (HS.out _).mono ?_
  rintro e w1 ⟨rfl, hl⟩
  have HG := Lib.hid (HF.out _ (HL.out.trans hl))
  clear hl
  go_wp2_with fail
  refine (must_false _).mono ?_
  rintro e w2 ⟨rfl, rfl⟩
  go_wp2_with fail
  exact ⟨rfl, HG.out⟩
end Go.Proofs.YtkbedajbbakihaaGreatDoor

/-
 The reader's picks, walked. Conditions: the reader is one of the call's own.
-/
namespace Go.Proofs.YtkbedajbbakihaaGreatDoor
open Go.RowKit Go.Sort Go.Lib
set_option linter.unusedSimpArgs false
set_option linter.unusedVariables false

/-! ### plainly -/
def pksL : List (List UInt8) → Option (List Int)
 | [] => some []
 | x :: t => (pk x).bind fun v => (pksL t).map (v :: ·)
/-- the numbers of a line of picks -/
def pksR (ws : List (List UInt8)) : Option (List Int) := if ws = [] then none else pksL ws
def ints (l : List Int) : List Value := l.map (Value.int .i64)
theorem ints_snoc (l : List Int) (v : Int) : ints (l ++ [v]) = ints l ++ [.int .i64 v] := by simp [ints]

/-! ### strconv.ParseInt -/
def PiE (r : Option Int) (e : Ending) : Prop := match r with
 | some v => e = .returned (.tuple #[.int .i64 v, .nilIface])
 | none => ∃ (n : Int) (v : Value), e = .returned (.tuple #[.int .i64 n, .iface 180 v])
def okI : Lib.NumEnd Int → Option Int
 | .ok v => some v
 | _ => none
theorem pint_is (s : ByteArray) (hlim : s.size ≤ 1000000000) (w : World) (he : Errs w) :
  Calls Tryz.prog 82 #[.string s, .int .i64 10, .int .i64 64] w fun e w' => PiE (okI (Lib.parseIntB 64 s.data.toList)) e ∧ Later w w' := by
 obtain ⟨⟨t0, p0, c0⟩, t1, p1, c1⟩ := he
 rcases hp : Lib.parseIntB 64 s.data.toList with u | _ | _
 ·refine (Tryz.strconv_ParseInt_10_at64_ok s (by omega) u hp w).mono ?_
  rintro e w' ⟨rfl, hw⟩
  refine ⟨rfl, ?_⟩
  rcases hw with rfl | ⟨t, rfl⟩
  ·exact Later.refl _
  ·exact later_bytes _ _ _
 ·refine (Any.strconv_ParseInt_10_at64_syntax Tryz.laysC174 s (by omega) hp _ w c0 (.inr ⟨_, _, rfl⟩)).mono ?_
  rintro e w' ⟨N, rfl, _, _, hb⟩
  exact ⟨⟨0, _, rfl⟩, hb⟩
 ·refine (Any.strconv_ParseInt_10_at64_range Tryz.laysC174 s (by omega) hp _ w c1 (.inr ⟨_, _, rfl⟩)).mono ?_
  rintro e w' ⟨N, rfl, _, _, hb⟩
  exact ⟨⟨_, _, rfl⟩, hb⟩
/-! ### picks -/
theorem ownsRow_only {b base n : Nat} {e : TypeId} {w w' : World} {v : Value} {xs : List Value} (h : w.ownsRow base e 1 v n xs) (k : Only b w w') (hb : b < base) : w'.ownsRow base e 1 v n xs :=
 h.kept (row := some b) ⟨k.os, k.tape, k.output, k.size, fun i hi hne => k.block i hi (fun e => hne (by rw [e]))⟩ (.inr (fun e => by have := (h.lt b e).1; omega))
theorem ownsRow_some {w : World} {base n : Nat} {e : TypeId} {v : Value} {xs : List Value} (h : w.ownsRow base e 1 v n xs) (hn : 0 < n) : ∃ g cap, v = .slice (some ⟨g, 0, none⟩) n cap := by
 rcases h.2 with ⟨_, h0⟩ | ⟨g, cap, cur, e1, _⟩
 ·omega
 ·exact ⟨g, cap, e1⟩
def PkEnd (b : Nat) (res : Option (List Int)) (w : World) (e : Ending) (w' : World) : Prop := Only b w w' ∧ match res with
 | none => e = wrongE
 | some l => l ≠ [] ∧ ∃ v, e = .returned v ∧ w'.ownsRow w.heap.size 3 1 v l.length (ints l)
/-- how many words are left, read off the world -/
def leftW (b : Nat) (w : World) : Nat := match w.cell? ⟨b, 0, none⟩ with
 | some (.slice _ n _) => n
 | _ => 0
theorem leftW_rd {b K : Nat} {R : Array Value} {ws : List (List UInt8)} {w : World} (h : RdW b K R ws w) : leftW b w = ws.length := by
 obtain ⟨_, _, _, h3, v, h4, ⟨wb, off, cap, rfl, _⟩, _⟩ := h
 unfold leftW
 rw [Lib.cell_of_heap h3, h4]
theorem info3 : (Tryz.prog.info? 3).map (fun i => (i.zero, i.size, i.bytes)) = some (some (.int .i64 0), 1, 8) := by kernel_rfl
theorem RdW.cell0 {b K : Nat} {R : Array Value} {ws : List (List UInt8)} {w : World} (h : RdW b K R ws w) : ∃ wb off cap, w.cell? ⟨b, 0, none⟩ = some (.slice (some ⟨wb, off, none⟩) ws.length cap) ∧ ws.length ≤ 1000000000 := by
 obtain ⟨_, _, _, h3, v, h4, ⟨wb, off, cap, rfl, h5, h6, _⟩, _⟩ := h
 exact ⟨wb, off, cap, by rw [Lib.cell_of_heap h3, h4], by omega⟩
/-- between two picks -/
def PI (b K : Nat) (ws : List (List UInt8)) (w : World) (s3 : Value) (vs : List Int) (rest : List (List UInt8)) (wr : World) : Prop :=
 (∃ R', RdW b K R' rest wr) ∧ Only b w wr ∧ wr.ownsRow w.heap.size 3 1 s3 vs.length (ints vs) ∧ pksL ws = (pksL rest).map (vs ++ ·) ∧ (vs = [] → rest = ws ∧ s3 = .slice none 0 0) ∧ vs.length + rest.length = ws.length

set_option maxRecDepth 100000 in
set_option maxHeartbeats 8000000 in
theorem picks_is (b K : Nat) (R : Array Value) (ws : List (List UInt8)) (w : World) (h : RdW b K R ws w) : Calls Tryz.prog 46 #[.pointer (some ⟨b, 0, none⟩)] w (PkEnd b (pksR ws) w) := by
 obtain ⟨i0, hi, hz0, hz1, hz2⟩ := info_parts info3
 obtain ⟨res, hres⟩ : ∃ res, pksR ws = res := ⟨_, rfl⟩
 have HFN := Lib.hid (fun w' (hk : Only b w w') (hr : pksR ws = none) => show PkEnd b res w wrongE w' by rw [← hres, hr]; exact ⟨hk, rfl⟩)
 have HFS := Lib.hid (fun l v w' (hk : Only b w w') (hr : pksR ws = some l) (h0 : l ≠ []) (how : w'.ownsRow w.heap.size 3 1 v l.length (ints l)) => show PkEnd b res w (.returned v) w' by rw [← hres, hr]; exact ⟨hk, h0, v, rfl, how⟩)
 have HB := Lib.hid h.1.1
 have HKK := Lib.hid h.2.1.2
 have HW9 := Lib.hid (show ws.length ≤ 1000000000 from by obtain ⟨_, _, _, _, h9⟩ := h.cell0; exact h9)
 have HST := Lib.hid (show PI b K ws w (.slice none 0 0) [] ws w from ⟨⟨R, h⟩, Only.refl _ _, World.ownsRow_nil _ _ _ _, by simp, fun _ => ⟨rfl, rfl⟩, by simp⟩)
 rw [hres]
 clear h hres
 go_enter Tryz.func46, Tryz.ntmps46
 go_wp2_with fail
 go_loopw [3] (fun q3 wr => ∃ s3 vs rest, q3 = s3 ∧ PI b K ws w s3 vs rest wr) (fun _ wr => leftW b wr)
 case atStart => exact ⟨_, [], ws, rfl, HST.out⟩
 case round =>
  clear HST
  obtain ⟨s3, vs, rest, hsv, ⟨R', hR⟩, ho, how, hp, hvs, hlen⟩ := hrel
  obtain ⟨wb, off, cap, hc0, -⟩ := hR.cell0
  have HLW := Lib.hid (leftW_rd hR)
  by_cases hv0 : vs = []
  ·obtain ⟨hrw, hs3⟩ := hvs hv0
   subst hs3
   subst hsv
   clear hvs hv0
   cases rest with
   | nil =>
    have HN := Lib.hid (next_none b K R' wr hR)
    have HF := Lib.hid (HFN.out _ ho (by rw [← hrw]; rfl))
    clear hR ho how hp hlen hrw
    go_wp2_with fail
    refine HN.out.mono ?_
    rintro e w1 ⟨rfl, rfl⟩
    unfold wrongE at HF ⊢
    go_wp2_with fail
    exact ⟨rfl, HF.out⟩
   | cons x t =>
    clear hrw

    have hx : x.length ≤ 90000000 := hR.2.2.2.2.elim fun v hv => hv.2.2 x List.mem_cons_self
    have HN := Lib.hid (next_some b K R' x t wr hR)
    have HEV := Lib.hid hR.1
    have HU := Lib.hid (fun w1 (he : Laid w1) => pint_is ⟨x.toArray⟩ (by simpa [ByteArray.size] using Nat.le_trans hx (by omega)) w1 he.2.1)
    rw [show (ByteArray.data ⟨x.toArray⟩).toList = x from by simp] at HU
    obtain ⟨X, hX⟩ : ∃ X : ByteArray, X = ⟨x.toArray⟩ := ⟨_, rfl⟩
    rw [← hX] at HU HN
    have HX := Lib.hid hX
    have hpl : pksL (x :: t) = (pk x).bind fun v => (pksL t).map (v :: ·) := rfl
    rw [hpl] at hp
    have HR := Lib.hid (And.intro ho (And.intro how (And.intro hp (And.intro hlen hR.2.1))))
    clear hX hx hR ho how hp hlen hpl
    cases hu : okI (Lib.parseIntB 64 x) with
    | none =>
     rw [hu] at HU
     have hn : pk x = none := by
      rw [← pk_eq]
      unfold pkP
      split
      ·rename_i n hn
       rw [hn] at hu
       cases hu
      ·rfl
     have HNO := Lib.hid (show pksR ws = none by
      have h1 := HR.out.2.2.1
      rw [hn] at h1
      unfold pksR
      split
      ·rfl
      ·exact h1)
     clear hu hn
     go_wp2_with fail
     refine HN.out.mono ?_
     rintro e w1 ⟨rfl, hk, v', hv'⟩
     have HK := Lib.hid hk
     clear hk hv'
     go_wp2_with fail
     refine (HU.out _ (HEV.out.only HK.out).laid).mono ?_
     rintro e w2 ⟨⟨n, v, rfl⟩, hl⟩
     have HL := Lib.hid hl
     clear hl
     have hne : ∀ W : World, (binOp .eql 65 (.iface 180 v) .nilIface).run Tryz.prog W = .ok (.bool false) W := fun W => by rfl
     go_wp2_with fail
     refine (must_false _).mono ?_
     rintro e w3 ⟨rfl, rfl⟩
     have HF := Lib.hid (HFN.out _ ((HR.out.1.trans HK.out).trans (Only.of_later HL.out)) HNO.out)
     go_wp2_with fail
     exact ⟨rfl, HF.out⟩
    | some u =>
     have hu2 : Lib.parseIntB 64 x = .ok u := by
      rcases hp : Lib.parseIntB 64 x with v | _ | _
      ·rw [hp] at hu; cases hu; rfl
      ·rw [hp] at hu; cases hu
      ·rw [hp] at hu; cases hu
     have hle := parseInt_in hu2
     rw [hu] at HU
     have HFU := Lib.hid (fun w1 (he : Laid w1) => show Calls Tryz.prog 83 #[.int .i64 u, .int .i64 10] w1 fun e w' => e = .returned (strV (Lib.itoa u)) ∧ Later w1 w' from (Tryz.strconv_FormatInt_10 u hle.1 hle.2 w1 he.1).mono fun e w' ⟨he, k, os, hg⟩ => ⟨he, by rw [hg]; exact later_grow w1 k os⟩)
     obtain ⟨D, hD⟩ : ∃ D : ByteArray, D = ⟨(Lib.itoa u).toArray⟩ := ⟨_, rfl⟩
     unfold strV at HFU
     rw [← hD] at HFU
     have hn : pk x = if Lib.itoa u = x then some u else none := by
      rw [← pk_eq]
      unfold pkP
      rw [hu2]
     have HU2 := Lib.hid (show ∀ w1, Laid w1 → Calls Tryz.prog 82 #[.string X, .int .i64 10, .int .i64 64] w1 fun e w' => e = .returned (.tuple #[.int .i64 u, .nilIface]) ∧ Later w1 w' from fun w1 h1 => HU.out w1 h1)
     clear HU hu hu2 hle
     have hne : ∀ W : World, (binOp .eql 65 .nilIface .nilIface).run Tryz.prog W = .ok (.bool true) W := fun W => by rfl
     by_cases hq : Lib.itoa u = x
     ·rw [if_pos hq] at hn
      have hc : (D.toList == X.toList) = true := by rw [hD, HX.out, ByteArray.toList_mk, ByteArray.toList_mk]; simpa using hq
      have HP := Lib.hid (show pksL ws = (pksL t).map ((vs ++ [u]) ++ ·) by
       have h1 := HR.out.2.2.1
       rw [hn] at h1
       rw [h1]
       simp only [Option.bind_some, Option.map_map]
       congr 1
       funext l
       simp)
      clear hq hD hn
      go_wp2_with fail
      refine HN.out.mono ?_
      rintro e w1 ⟨rfl, hk, v', hv'⟩
      have HK := Lib.hid hk
      have HV := Lib.hid hv'
      clear hk hv'
      go_wp2_with fail
      refine (HU2.out _ (HEV.out.only HK.out).laid).mono ?_
      rintro e w2 ⟨rfl, hl⟩
      have HL := Lib.hid hl
      clear hl
      go_wp2_with fail
      refine (HFU.out _ ((HEV.out.only HK.out).laid.later HL.out)).mono ?_
      rintro e w3 ⟨rfl, hl3⟩
      have HL3 := Lib.hid (HL.out.trans hl3)
      clear hl3
      go_wp2_with fail
      refine (must_true _).mono ?_
      rintro e w4 ⟨rfl, rfl⟩
      have hbw : b < w.heap.size := HB.out
      have hown := ownsRow_later (ownsRow_only HR.out.2.1 HK.out hbw) HL3.out
      have hK4 := (HR.out.1.trans HK.out).trans (Only.of_later HL3.out)
      have hR4 := HV.out.later HL3.out
      have hsz := hK4.size
      have hlen4 := HR.out.2.2.2.1
      have hw9 := HW9.out
      simp only [List.length_cons] at hlen4
      go_wp2_with (at_builtin; refine wpList_append_own _ rfl _ _ 43 rfl w.heap.size 3 i0 (.int .i64 0) 1 8 Tryz.underlying43 hi hz0 hz1 hz2 rfl (by decide) _ _ _ rfl (hown.alloc _) ⟨w4.heap.size, 0, none⟩ 1 1 [.int .i64 u] rfl rfl (cell_one_new _ _ _) (by simp [Value.oneCell']) ?c3 ?c4 ?c5 ?_)
      case c3 => unfold maxLen; omega
      case c4 => omega
      case c5 => simp; omega
      intro s3 w6 hown6 hgrow0 _
      have hgrow := (World.grownBy_alloc w4 (Obj.cells #[.int .i64 u] 3) (Value.slice none 0 0).ownBlock).trans hgrow0
      have hlt2 : ∀ k, (Value.slice none 0 0).ownBlock = some k → w.heap.size ≤ k := fun k hk => (hown.lt k hk).1
      have HPI := Lib.hid (show PI b K ws w s3 (vs ++ [u]) t w6 by
       refine ⟨⟨_, hR4.below ⟨hgrow.os, hgrow.tape, hgrow.output, hgrow.size, fun k hk => hgrow.block k (by have := hR4.2.1; omega) (fun e => by have := hlt2 k e.symm; have := HKK.out; omega)⟩⟩, ?_, ?_, HP.out, (fun h => by simp at h), by simp; omega⟩
       ·exact ⟨hgrow.os.trans hK4.os, hgrow.tape.trans hK4.tape, hgrow.output.trans hK4.output, Nat.le_trans hK4.size hgrow.size, fun k hk hb => (hgrow.block k (by omega) (fun e => by have := hlt2 k e.symm; omega)).trans (hK4.block k hk hb)⟩
       ·rw [ints_snoc, List.length_append]
        exact hown6)
      have HM := Lib.hid (show leftW b w6 < leftW b wr by
       obtain ⟨⟨R9, hR9⟩, _⟩ := HPI.out
       rw [leftW_rd hR9, HLW.out]
       simp)
      clear hown hK4 hR4 hsz hlen4 hown6 hgrow0 hgrow hlt2 hbw hw9
      go_wp2_with fail
      go_roundw
      case rel => exact ⟨_, _, _, rfl, HPI.out⟩
      case measure => exact HM.out
     ·rw [if_neg hq] at hn
      have hc : (D.toList == X.toList) = false := by rw [hD, HX.out, ByteArray.toList_mk, ByteArray.toList_mk]; simpa using hq
      have HNO := Lib.hid (show pksR ws = none by
       have h1 := HR.out.2.2.1
       rw [hn] at h1
       unfold pksR
       split
       ·rfl
       ·exact h1)
      clear hq hD hn
      go_wp2_with fail
      refine HN.out.mono ?_
      rintro e w1 ⟨rfl, hk, v', hv'⟩
      have HK := Lib.hid hk
      clear hk hv'
      go_wp2_with fail
      refine (HU2.out _ (HEV.out.only HK.out).laid).mono ?_
      rintro e w2 ⟨rfl, hl⟩
      have HL := Lib.hid hl
      clear hl
      go_wp2_with fail
      refine (HFU.out _ ((HEV.out.only HK.out).laid.later HL.out)).mono ?_
      rintro e w3 ⟨rfl, hl3⟩
      have HL3 := Lib.hid (HL.out.trans hl3)
      clear hl3
      go_wp2_with fail
      refine (must_false _).mono ?_
      rintro e w4 ⟨rfl, rfl⟩
      have HF := Lib.hid (HFN.out _ ((HR.out.1.trans HK.out).trans (Only.of_later HL3.out)) HNO.out)
      go_wp2_with fail
      exact ⟨rfl, HF.out⟩
  ·have hn0 : 0 < vs.length := List.length_pos_iff.2 hv0
   obtain ⟨g, cp, rfl⟩ := ownsRow_some how hn0
   subst hsv
   have hnz : (((vs.length : Nat) : Int) == 0) = false := by rw [beq_eq_false_iff_ne]; omega
   cases rest with
   | nil =>
    have hc0 : wr.cell? ⟨b, 0, none⟩ = some (.slice (some ⟨wb, off, none⟩) 0 cap) := hc0
    have HF := Lib.hid (HFS.out vs _ _ ho (by
     have : ws ≠ [] := by
      intro e
      rw [e] at hlen
      simp at hlen
      exact hv0 hlen
     rw [pksR, if_neg this, hp]
     simp [pksL]) hv0 how)
    clear hR ho how hp hlen hv0 hvs
    go_wp2_with fail
    go_ret
    exact HF.out
   | cons x t =>
    obtain ⟨m, hm⟩ : ∃ m, m = (x :: t).length := ⟨_, rfl⟩
    rw [← hm] at hc0
    have hm0 : 0 < m := by rw [hm]; simp
    clear hm hvs hv0

    have hx : x.length ≤ 90000000 := hR.2.2.2.2.elim fun v hv => hv.2.2 x List.mem_cons_self
    have HN := Lib.hid (next_some b K R' x t wr hR)
    have HEV := Lib.hid hR.1
    have HU := Lib.hid (fun w1 (he : Laid w1) => pint_is ⟨x.toArray⟩ (by simpa [ByteArray.size] using Nat.le_trans hx (by omega)) w1 he.2.1)
    rw [show (ByteArray.data ⟨x.toArray⟩).toList = x from by simp] at HU
    obtain ⟨X, hX⟩ : ∃ X : ByteArray, X = ⟨x.toArray⟩ := ⟨_, rfl⟩
    rw [← hX] at HU HN
    have HX := Lib.hid hX
    have hpl : pksL (x :: t) = (pk x).bind fun v => (pksL t).map (v :: ·) := rfl
    rw [hpl] at hp
    have HR := Lib.hid (And.intro ho (And.intro how (And.intro hp (And.intro hlen hR.2.1))))
    clear hX hx hR ho how hp hlen hpl
    cases hu : okI (Lib.parseIntB 64 x) with
    | none =>
     rw [hu] at HU
     have hn : pk x = none := by
      rw [← pk_eq]
      unfold pkP
      split
      ·rename_i n hn
       rw [hn] at hu
       cases hu
      ·rfl
     have HNO := Lib.hid (show pksR ws = none by
      have h1 := HR.out.2.2.1
      rw [hn] at h1
      unfold pksR
      split
      ·rfl
      ·exact h1)
     clear hu hn
     go_wp2_with fail
     refine HN.out.mono ?_
     rintro e w1 ⟨rfl, hk, v', hv'⟩
     have HK := Lib.hid hk
     clear hk hv'
     go_wp2_with fail
     refine (HU.out _ (HEV.out.only HK.out).laid).mono ?_
     rintro e w2 ⟨⟨n, v, rfl⟩, hl⟩
     have HL := Lib.hid hl
     clear hl
     have hne : ∀ W : World, (binOp .eql 65 (.iface 180 v) .nilIface).run Tryz.prog W = .ok (.bool false) W := fun W => by rfl
     go_wp2_with fail
     refine (must_false _).mono ?_
     rintro e w3 ⟨rfl, rfl⟩
     have HF := Lib.hid (HFN.out _ ((HR.out.1.trans HK.out).trans (Only.of_later HL.out)) HNO.out)
     go_wp2_with fail
     exact ⟨rfl, HF.out⟩
    | some u =>
     have hu2 : Lib.parseIntB 64 x = .ok u := by
      rcases hp : Lib.parseIntB 64 x with v | _ | _
      ·rw [hp] at hu; cases hu; rfl
      ·rw [hp] at hu; cases hu
      ·rw [hp] at hu; cases hu
     have hle := parseInt_in hu2
     rw [hu] at HU
     have HFU := Lib.hid (fun w1 (he : Laid w1) => show Calls Tryz.prog 83 #[.int .i64 u, .int .i64 10] w1 fun e w' => e = .returned (strV (Lib.itoa u)) ∧ Later w1 w' from (Tryz.strconv_FormatInt_10 u hle.1 hle.2 w1 he.1).mono fun e w' ⟨he, k, os, hg⟩ => ⟨he, by rw [hg]; exact later_grow w1 k os⟩)
     obtain ⟨D, hD⟩ : ∃ D : ByteArray, D = ⟨(Lib.itoa u).toArray⟩ := ⟨_, rfl⟩
     unfold strV at HFU
     rw [← hD] at HFU
     have hn : pk x = if Lib.itoa u = x then some u else none := by
      rw [← pk_eq]
      unfold pkP
      rw [hu2]
     have HU2 := Lib.hid (show ∀ w1, Laid w1 → Calls Tryz.prog 82 #[.string X, .int .i64 10, .int .i64 64] w1 fun e w' => e = .returned (.tuple #[.int .i64 u, .nilIface]) ∧ Later w1 w' from fun w1 h1 => HU.out w1 h1)
     clear HU hu hu2 hle
     have hne : ∀ W : World, (binOp .eql 65 .nilIface .nilIface).run Tryz.prog W = .ok (.bool true) W := fun W => by rfl
     by_cases hq : Lib.itoa u = x
     ·rw [if_pos hq] at hn
      have hc : (D.toList == X.toList) = true := by rw [hD, HX.out, ByteArray.toList_mk, ByteArray.toList_mk]; simpa using hq
      have HP := Lib.hid (show pksL ws = (pksL t).map ((vs ++ [u]) ++ ·) by
       have h1 := HR.out.2.2.1
       rw [hn] at h1
       rw [h1]
       simp only [Option.bind_some, Option.map_map]
       congr 1
       funext l
       simp)
      clear hq hD hn
      go_wp2_with fail
      refine HN.out.mono ?_
      rintro e w1 ⟨rfl, hk, v', hv'⟩
      have HK := Lib.hid hk
      have HV := Lib.hid hv'
      clear hk hv'
      go_wp2_with fail
      refine (HU2.out _ (HEV.out.only HK.out).laid).mono ?_
      rintro e w2 ⟨rfl, hl⟩
      have HL := Lib.hid hl
      clear hl
      go_wp2_with fail
      refine (HFU.out _ ((HEV.out.only HK.out).laid.later HL.out)).mono ?_
      rintro e w3 ⟨rfl, hl3⟩
      have HL3 := Lib.hid (HL.out.trans hl3)
      clear hl3
      go_wp2_with fail
      refine (must_true _).mono ?_
      rintro e w4 ⟨rfl, rfl⟩
      have hbw : b < w.heap.size := HB.out
      have hown := ownsRow_later (ownsRow_only HR.out.2.1 HK.out hbw) HL3.out
      have hK4 := (HR.out.1.trans HK.out).trans (Only.of_later HL3.out)
      have hR4 := HV.out.later HL3.out
      have hsz := hK4.size
      have hlen4 := HR.out.2.2.2.1
      have hw9 := HW9.out
      simp only [List.length_cons] at hlen4
      go_wp2_with (at_builtin; refine wpList_append_own _ rfl _ _ 43 rfl w.heap.size 3 i0 (.int .i64 0) 1 8 Tryz.underlying43 hi hz0 hz1 hz2 rfl (by decide) _ _ _ rfl (hown.alloc _) ⟨w4.heap.size, 0, none⟩ 1 1 [.int .i64 u] rfl rfl (cell_one_new _ _ _) (by simp [Value.oneCell']) ?c3 ?c4 ?c5 ?_)
      case c3 => unfold maxLen; omega
      case c4 => omega
      case c5 => simp; omega
      intro s3 w6 hown6 hgrow0 _
      have hgrow := (World.grownBy_alloc w4 (Obj.cells #[.int .i64 u] 3) (Value.slice (some ⟨g, 0, none⟩) vs.length cp).ownBlock).trans hgrow0
      have hlt2 : ∀ k, (Value.slice (some ⟨g, 0, none⟩) vs.length cp).ownBlock = some k → w.heap.size ≤ k := fun k hk => (hown.lt k hk).1
      have HPI := Lib.hid (show PI b K ws w s3 (vs ++ [u]) t w6 by
       refine ⟨⟨_, hR4.below ⟨hgrow.os, hgrow.tape, hgrow.output, hgrow.size, fun k hk => hgrow.block k (by have := hR4.2.1; omega) (fun e => by have := hlt2 k e.symm; have := HKK.out; omega)⟩⟩, ?_, ?_, HP.out, (fun h => by simp at h), by simp; omega⟩
       ·exact ⟨hgrow.os.trans hK4.os, hgrow.tape.trans hK4.tape, hgrow.output.trans hK4.output, Nat.le_trans hK4.size hgrow.size, fun k hk hb => (hgrow.block k (by omega) (fun e => by have := hlt2 k e.symm; omega)).trans (hK4.block k hk hb)⟩
       ·rw [ints_snoc, List.length_append]
        exact hown6)
      have HM := Lib.hid (show leftW b w6 < leftW b wr by
       obtain ⟨⟨R9, hR9⟩, _⟩ := HPI.out
       rw [leftW_rd hR9, HLW.out]
       simp)
      clear hown hK4 hR4 hsz hlen4 hown6 hgrow0 hgrow hlt2 hbw hw9
      go_wp2_with fail
      go_roundw
      case rel => exact ⟨_, _, _, rfl, HPI.out⟩
      case measure => exact HM.out
     ·rw [if_neg hq] at hn
      have hc : (D.toList == X.toList) = false := by rw [hD, HX.out, ByteArray.toList_mk, ByteArray.toList_mk]; simpa using hq
      have HNO := Lib.hid (show pksR ws = none by
       have h1 := HR.out.2.2.1
       rw [hn] at h1
       unfold pksR
       split
       ·rfl
       ·exact h1)
      clear hq hD hn
      go_wp2_with fail
      refine HN.out.mono ?_
      rintro e w1 ⟨rfl, hk, v', hv'⟩
      have HK := Lib.hid hk
      clear hk hv'
      go_wp2_with fail
      refine (HU2.out _ (HEV.out.only HK.out).laid).mono ?_
      rintro e w2 ⟨rfl, hl⟩
      have HL := Lib.hid hl
      clear hl
      go_wp2_with fail
      refine (HFU.out _ ((HEV.out.only HK.out).laid.later HL.out)).mono ?_
      rintro e w3 ⟨rfl, hl3⟩
      have HL3 := Lib.hid (HL.out.trans hl3)
      clear hl3
      go_wp2_with fail
      refine (must_false _).mono ?_
      rintro e w4 ⟨rfl, rfl⟩
      have HF := Lib.hid (HFN.out _ ((HR.out.1.trans HK.out).trans (Only.of_later HL3.out)) HNO.out)
      go_wp2_with fail
      exact ⟨rfl, HF.out⟩
end Go.Proofs.YtkbedajbbakihaaGreatDoor
