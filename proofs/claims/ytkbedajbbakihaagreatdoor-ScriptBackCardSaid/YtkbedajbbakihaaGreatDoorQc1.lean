/-
 Texts of this proof, put together (Re, Rf): each part's first words say what it holds. Conditions: as each part says.
-/
import Derived.Test.YtkbedajbbakihaaGreatDoorQc
/-
 The reader's bytes, large, number and handle, walked. Conditions: the reader is one of the call's own.
-/
namespace Go.Proofs.YtkbedajbbakihaaGreatDoor
open Go.RowKit Go.Sort Go.Lib
set_option linter.unusedSimpArgs false
set_option linter.unusedVariables false

/-- how taking one word ends -/
def RdEnd (b K : Nat) (R : Array Value) (ws : List (List UInt8)) (res : Option Value) (w : World) (e : Ending) (w' : World) : Prop :=
 Only b w w' ∧ match res with
  | none => e = wrongE
  | some u => e = .returned u ∧ ∃ v', RdW b K (R.setIfInBounds 0 v') ws.tail w'
def firstW (f : List UInt8 → Option Value) : List (List UInt8) → Option Value
 | [] => none
 | x :: _ => f x
def strV (l : List UInt8) : Value := .string ⟨l.toArray⟩

theorem bytes_is (b K : Nat) (R : Array Value) (ws : List (List UInt8)) (w : World) (h : RdW b K R ws w) :
  Calls Tryz.prog 130 #[.pointer (some ⟨b, 0, none⟩)] w (RdEnd b K R ws (firstW (fun x => (unword x).map strV) ws) w) := by
 cases ws with
 | nil =>
  have HN := Lib.hid (next_none b K R w h)
  have HE := Lib.hid (show RdEnd b K R [] none w wrongE w from ⟨Only.refl _ _, rfl⟩)
  clear h
  show Calls Tryz.prog 130 #[.pointer (some ⟨b, 0, none⟩)] w (RdEnd b K R [] none w)
  go_enter Tryz.func130, Tryz.ntmps130
  go_wp2_with fail
  refine HN.out.mono ?_
  rintro e w1 ⟨rfl, rfl⟩
  unfold wrongE
  go_wp2_with fail
  exact ⟨rfl, HE.out⟩
 | cons x t =>
  have HN := Lib.hid (next_some b K R x t w h)
  have hx : x.length ≤ 90000000 := h.2.2.2.2.elim fun v hv => hv.2.2 x List.mem_cons_self
  have HU := Lib.hid (fun w1 => Unword_is ⟨x.toArray⟩ (by simpa [ByteArray.size] using Nat.le_trans hx (by omega)) w1)
  clear h hx
  show Calls Tryz.prog 130 #[.pointer (some ⟨b, 0, none⟩)] w (RdEnd b K R (x :: t) ((unword x).map strV) w)
  rw [show (ByteArray.data ⟨x.toArray⟩).toList = x from by simp] at HU
  cases hu : unword x with
  | none =>
   rw [hu] at HU
   have HE := Lib.hid (fun w' (hk : Only b w w') => (show RdEnd b K R (x :: t) none w wrongE w' from ⟨hk, rfl⟩))
   show Calls Tryz.prog 130 #[.pointer (some ⟨b, 0, none⟩)] w (RdEnd b K R (x :: t) none w)
   clear hu
   go_enter Tryz.func130, Tryz.ntmps130
   go_wp2_with fail
   refine HN.out.mono ?_
   rintro e w1 ⟨rfl, hk, v', hv'⟩
   have HK := Lib.hid hk
   clear hk hv'
   go_wp2_with fail
   refine (HU.out _).mono ?_
   rintro e w2 ⟨hue, hl⟩
   have HL := Lib.hid hl
   clear hl
   cases hue
   go_wp2_with fail
   refine (must_false _).mono ?_
   rintro e w3 ⟨rfl, rfl⟩
   have HF := Lib.hid (HE.out _ (HK.out.trans (Only.of_later HL.out)))
   go_wp2_with fail
   exact ⟨rfl, HF.out⟩
  | some s =>
   rw [hu] at HU
   show Calls Tryz.prog 130 #[.pointer (some ⟨b, 0, none⟩)] w (RdEnd b K R (x :: t) (some (strV s)) w)
   have HE := Lib.hid (fun w' (hk : Only b w w') (hv : ∃ v', RdW b K (R.setIfInBounds 0 v') t w') => (show RdEnd b K R (x :: t) (some (strV s)) w (.returned (strV s)) w' from ⟨hk, rfl, hv⟩))
   clear hu
   unfold strV at HE ⊢
   obtain ⟨S, hS⟩ : ∃ S : ByteArray, S = ⟨s.toArray⟩ := ⟨_, rfl⟩
   have HU2 := Lib.hid (show ∀ w1, Calls Tryz.prog 12 #[.string ⟨x.toArray⟩] w1 fun e w' => e = .returned (.tuple #[.string S, .int .i64 0]) ∧ Later w1 w' from fun w1 => by rw [hS]; exact HU.out w1)
   rw [← hS] at HE ⊢
   clear HU hS
   go_enter Tryz.func130, Tryz.ntmps130
   go_wp2_with fail
   refine HN.out.mono ?_
   rintro e w1 ⟨rfl, hk, v', hv'⟩
   have HK := Lib.hid hk
   have HV := Lib.hid hv'
   clear hk hv'
   go_wp2_with fail
   refine (HU2.out _).mono ?_
   rintro e w2 ⟨rfl, hl⟩
   have HL := Lib.hid hl
   clear hl
   go_wp2_with fail
   refine (must_true _).mono ?_
   rintro e w3 ⟨rfl, rfl⟩
   have HF := Lib.hid (HE.out _ (HK.out.trans (Only.of_later HL.out)) ⟨v', HV.out.later HL.out⟩)
   go_wp2_with fail
   go_ret
   exact HF.out

/-! ### numbers -/
/-- how ParseUint ends -/
def PuE (r : Option Nat) (e : Ending) : Prop :=
 match r with
 | some u => e = .returned (.tuple #[.int .u64 (u : Int), .nilIface])
 | none => ∃ (n : Int) (v : Value), 0 ≤ n ∧ e = .returned (.tuple #[.int .u64 n, .iface 180 v])
def okN : Lib.NumEnd Nat → Option Nat
 | .ok u => some u
 | _ => none
theorem parse64_is (s : ByteArray) (hlim : s.size ≤ 1000000000) (w : World) (he : Errs w) :
  Calls Tryz.prog 129 #[.string s, .int .i64 10, .int .i64 64] w fun e w' => PuE (okN (Lib.parseUintB 64 s.data.toList)) e ∧ Later w w' := by
 obtain ⟨⟨t0, p0, c0⟩, t1, p1, c1⟩ := he
 rcases hp : Lib.parseUintB 64 s.data.toList with u | _ | _
 ·refine (Tryz.strconv_ParseUint_10_at64_ok s (by omega) u hp w).mono ?_
  rintro e w' ⟨rfl, hw⟩
  refine ⟨rfl, ?_⟩
  rcases hw with rfl | ⟨t, rfl⟩
  ·exact Later.refl _
  ·exact later_bytes _ _ _
 ·refine (Any.strconv_ParseUint_10_at64_syntax Tryz.laysPu14 s (by omega) hp _ w c0 (.inr ⟨_, _, rfl⟩)).mono ?_
  rintro e w' ⟨N, rfl, _, _, hb⟩
  exact ⟨⟨0, _, by omega, rfl⟩, hb⟩
 ·refine (Any.strconv_ParseUint_10_at64_range Tryz.laysPu14 s (by omega) hp _ w c1 (.inr ⟨_, _, rfl⟩)).mono ?_
  rintro e w' ⟨N, rfl, _, _, hb⟩
  exact ⟨⟨18446744073709551615, _, by omega, rfl⟩, hb⟩
def u64V (n : Nat) : Value := .int .u64 (n : Int)
set_option maxRecDepth 100000 in
theorem large_is (b K : Nat) (R : Array Value) (ws : List (List UInt8)) (w : World) (h : RdW b K R ws w) :
  Calls Tryz.prog 84 #[.pointer (some ⟨b, 0, none⟩)] w (RdEnd b K R ws (firstW (fun x => (lrg x).map u64V) ws) w) := by
 cases ws with
 | nil =>
  have HN := Lib.hid (next_none b K R w h)
  have HE := Lib.hid (show RdEnd b K R [] none w wrongE w from ⟨Only.refl _ _, rfl⟩)
  clear h
  show Calls Tryz.prog 84 #[.pointer (some ⟨b, 0, none⟩)] w (RdEnd b K R [] none w)
  go_enter Tryz.func84, Tryz.ntmps84
  go_wp2_with fail
  refine HN.out.mono ?_
  rintro e w1 ⟨rfl, rfl⟩
  unfold wrongE
  go_wp2_with fail
  exact ⟨rfl, HE.out⟩
 | cons x t =>
  have HN := Lib.hid (next_some b K R x t w h)
  have hx : x.length ≤ 90000000 := h.2.2.2.2.elim fun v hv => hv.2.2 x List.mem_cons_self
  have HEV := Lib.hid h.1
  have HU := Lib.hid (fun w1 (he : Laid w1) => parse64_is ⟨x.toArray⟩ (by simpa [ByteArray.size] using Nat.le_trans hx (by omega)) w1 he.2.1)
  clear h hx
  show Calls Tryz.prog 84 #[.pointer (some ⟨b, 0, none⟩)] w (RdEnd b K R (x :: t) ((lrg x).map u64V) w)
  rw [← lrg_eq]
  rw [show (ByteArray.data ⟨x.toArray⟩).toList = x from by simp] at HU
  obtain ⟨X, hX⟩ : ∃ X : ByteArray, X = ⟨x.toArray⟩ := ⟨_, rfl⟩
  rw [← hX] at HU HN
  have HX := Lib.hid hX
  clear hX
  have HE := Lib.hid (fun w' (hk : Only b w w') => (show RdEnd b K R (x :: t) none w wrongE w' from ⟨hk, rfl⟩))
  cases hu : okN (Lib.parseUintB 64 x) with
  | none =>
   rw [hu] at HU
   have hn : lrgP x = none := by
    unfold lrgP
    split
    ·rename_i n hn
     rw [hn] at hu
     cases hu
    ·rfl
   rw [hn]
   show Calls Tryz.prog 84 #[.pointer (some ⟨b, 0, none⟩)] w (RdEnd b K R (x :: t) none w)
   clear hu hn
   go_enter Tryz.func84, Tryz.ntmps84
   go_wp2_with fail
   refine HN.out.mono ?_
   rintro e w1 ⟨rfl, hk, v', hv'⟩
   have HK := Lib.hid hk
   clear hk hv'
   go_wp2_with fail
   refine (HU.out _ (HEV.out.only HK.out).laid).mono ?_
   rintro e w2 ⟨⟨n, v, hn0, rfl⟩, hl⟩
   have HL := Lib.hid hl
   clear hl
   have hne : ∀ W : World, (binOp .eql 65 (.iface 180 v) .nilIface).run Tryz.prog W = .ok (.bool false) W := fun W => by rfl
   go_wp2_with fail
   refine (must_false _).mono ?_
   rintro e w3 ⟨rfl, rfl⟩
   have HF := Lib.hid (HE.out _ (HK.out.trans (Only.of_later HL.out)))
   go_wp2_with fail
   exact ⟨rfl, HF.out⟩
  | some u =>
   have hu2 : Lib.parseUintB 64 x = .ok u := by
    rcases hp : Lib.parseUintB 64 x with v | _ | _
    ·rw [hp] at hu; cases hu; rfl
    ·rw [hp] at hu; cases hu
    ·rw [hp] at hu; cases hu
   have hle := pb_le64 hu2
   rw [hu] at HU
   have HFU := Lib.hid (fun w1 (he : Laid w1) => formatUint_any u (by omega) w1 he.1)
   obtain ⟨D, hD⟩ : ∃ D : ByteArray, D = ⟨(Lib.decDigits u).toArray⟩ := ⟨_, rfl⟩
   rw [← hD] at HFU
   have hn : lrgP x = if Lib.decDigits u = x then some u else none := by
    unfold lrgP
    rw [hu2]
   rw [hn]
   clear hu hu2 hn hle
   have HU2 := Lib.hid (show ∀ w1, Laid w1 → Calls Tryz.prog 129 #[.string X, .int .i64 10, .int .i64 64] w1 fun e w' => e = .returned (.tuple #[.int .u64 (u : Int), .nilIface]) ∧ Later w1 w' from fun w1 h1 => HU.out w1 h1)
   clear HU
   have hne : ∀ W : World, (binOp .eql 65 .nilIface .nilIface).run Tryz.prog W = .ok (.bool true) W := fun W => by rfl
   by_cases hq : Lib.decDigits u = x
   ·rw [if_pos hq]
    have hc : (D.toList == X.toList) = true := by rw [hD, HX.out, ByteArray.toList_mk, ByteArray.toList_mk]; simpa using hq
    show Calls Tryz.prog 84 #[.pointer (some ⟨b, 0, none⟩)] w (RdEnd b K R (x :: t) (some (u64V u)) w)
    have HG := Lib.hid (fun w' (hk : Only b w w') (hv : ∃ v', RdW b K (R.setIfInBounds 0 v') t w') => (show RdEnd b K R (x :: t) (some (u64V u)) w (.returned (u64V u)) w' from ⟨hk, rfl, hv⟩))
    clear hq hD
    unfold u64V at HG ⊢
    go_enter Tryz.func84, Tryz.ntmps84
    go_wp2_with fail
    refine HN.out.mono ?_
    rintro e w1 ⟨rfl, hk, v', hv'⟩
    have HK := Lib.hid hk
    have HV := Lib.hid hv'
    clear hk hv'
    go_wp2_with fail
    refine (HU2.out _ (HEV.out.only HK.out).laid).mono ?_
    rintro e w2 ⟨rfl, hl⟩
    have HL := Lib.hid hl
    clear hl
    go_wp2_with fail
    refine (HFU.out _ ((HEV.out.only HK.out).laid.later HL.out)).mono ?_
    rintro e w3 ⟨rfl, hl3⟩
    have HL3 := Lib.hid (HL.out.trans hl3)
    clear hl3
    go_wp2_with fail
    refine (must_true _).mono ?_
    rintro e w4 ⟨rfl, rfl⟩
    have HF := Lib.hid (HG.out _ (HK.out.trans (Only.of_later HL3.out)) ⟨v', HV.out.later HL3.out⟩)
    go_wp2_with fail
    go_ret
    exact HF.out
   ·rw [if_neg hq]
    have hc : (D.toList == X.toList) = false := by rw [hD, HX.out, ByteArray.toList_mk, ByteArray.toList_mk]; simpa using hq
    show Calls Tryz.prog 84 #[.pointer (some ⟨b, 0, none⟩)] w (RdEnd b K R (x :: t) none w)
    clear hq hD
    go_enter Tryz.func84, Tryz.ntmps84
    go_wp2_with fail
    refine HN.out.mono ?_
    rintro e w1 ⟨rfl, hk, v', hv'⟩
    have HK := Lib.hid hk
    clear hk hv'
    go_wp2_with fail
    refine (HU2.out _ (HEV.out.only HK.out).laid).mono ?_
    rintro e w2 ⟨rfl, hl⟩
    have HL := Lib.hid hl
    clear hl
    go_wp2_with fail
    refine (HFU.out _ ((HEV.out.only HK.out).laid.later HL.out)).mono ?_
    rintro e w3 ⟨rfl, hl3⟩
    have HL3 := Lib.hid (HL.out.trans hl3)
    clear hl3
    go_wp2_with fail
    refine (must_false _).mono ?_
    rintro e w4 ⟨rfl, rfl⟩
    have HF := Lib.hid (HE.out _ (HK.out.trans (Only.of_later HL3.out)))
    go_wp2_with fail
    exact ⟨rfl, HF.out⟩

def i64V (n : Int) : Value := .int .i64 n
theorem num_of (x : List UInt8) : num x = (lrg x).bind fun n => if n ≤ 999999999 then some (n : Int) else none := by
 unfold num
 cases lrg x <;> rfl
set_option maxRecDepth 100000 in
theorem numb_is (b K : Nat) (R : Array Value) (ws : List (List UInt8)) (w : World) (h : RdW b K R ws w) :
  Calls Tryz.prog 47 #[.pointer (some ⟨b, 0, none⟩)] w (RdEnd b K R ws (firstW (fun x => (num x).map i64V) ws) w) := by
 have hL := large_is b K R ws w h
 have hf : firstW (fun x => (num x).map i64V) ws = ((ws.head?.bind lrg).bind fun n => if n ≤ 999999999 then some (n : Int) else none).map i64V := by
  cases ws with
  | nil => rfl
  | cons x t => show (num x).map i64V = _; rw [num_of]; rfl
 have hg : firstW (fun x => (lrg x).map u64V) ws = (ws.head?.bind lrg).map u64V := by cases ws <;> rfl
 rw [hf]
 rw [hg] at hL
 have HE := Lib.hid (fun w' (hk : Only b w w') => (show RdEnd b K R ws none w wrongE w' from ⟨hk, rfl⟩))
 clear h hf hg
 cases hr : ws.head?.bind lrg with
 | none =>
  rw [hr] at hL
  have HL := Lib.hid hL
  show Calls Tryz.prog 47 #[.pointer (some ⟨b, 0, none⟩)] w (RdEnd b K R ws none w)
  clear hr hL
  go_enter Tryz.func47, Tryz.ntmps47
  go_wp2_with fail
  refine HL.out.mono ?_
  rintro e w1 ⟨hk, he⟩
  have HF := Lib.hid (HE.out _ hk)
  simp only [Option.map_none] at he
  subst he
  clear hk
  unfold wrongE
  go_wp2_with fail
  exact ⟨rfl, HF.out⟩
 | some n =>
  rw [hr] at hL
  have HL := Lib.hid hL
  clear hr hL
  by_cases hn : n ≤ 999999999
  ·rw [Option.bind_some, if_pos hn]
   show Calls Tryz.prog 47 #[.pointer (some ⟨b, 0, none⟩)] w (RdEnd b K R ws (some (i64V n)) w)
   have HG := Lib.hid (fun w' (hk : Only b w w') (hv : ∃ v', RdW b K (R.setIfInBounds 0 v') ws.tail w') => (show RdEnd b K R ws (some (i64V n)) w (.returned (i64V n)) w' from ⟨hk, rfl, hv⟩))
   unfold i64V at HG ⊢
   have hd : decide ((n : Int) ≤ 999999999) = true := by simp; omega
   have hd2 : decide (n ≤ 999999999) = true := by simp; omega
   have hw : wrap64 (n : Int) = n := IntWalk.wrap64_in _ ⟨by omega, by omega⟩
   go_enter Tryz.func47, Tryz.ntmps47
   go_wp2_with fail
   refine HL.out.mono ?_
   rintro e w1 ⟨hk, he, hv⟩
   have HK := Lib.hid hk
   have HV := Lib.hid hv
   unfold u64V at he
   subst he
   clear hk hv
   go_wp2_with fail
   refine (must_true _).mono ?_
   rintro e w4 ⟨rfl, rfl⟩
   have HF := Lib.hid (HG.out _ HK.out HV.out)
   go_wp2_with fail
   go_ret
   exact HF.out
  ·rw [Option.bind_some, if_neg hn]
   show Calls Tryz.prog 47 #[.pointer (some ⟨b, 0, none⟩)] w (RdEnd b K R ws none w)
   have hd : decide ((n : Int) ≤ 999999999) = false := by simp; omega
   have hd2 : decide (n ≤ 999999999) = false := by simp; omega
   clear hn
   go_enter Tryz.func47, Tryz.ntmps47
   go_wp2_with fail
   refine HL.out.mono ?_
   rintro e w1 ⟨hk, he, hv⟩
   have HK := Lib.hid hk
   unfold u64V at he
   subst he
   clear hk hv
   go_wp2_with fail
   refine (must_false _).mono ?_
   rintro e w4 ⟨rfl, rfl⟩
   have HF := Lib.hid (HE.out _ HK.out)
   go_wp2_with fail
   exact ⟨rfl, HF.out⟩
def hdlV (x : Int × Int × Int) : Value := .agg #[.int .i64 x.1, .int .u32 x.2.1, .int .u8 x.2.2]
set_option maxRecDepth 100000 in
theorem handle_is (b K : Nat) (R : Array Value) (ws : List (List UInt8)) (w : World) (h : RdW b K R ws w) :
  Calls Tryz.prog 131 #[.pointer (some ⟨b, 0, none⟩)] w (RdEnd b K R ws (firstW (fun x => (rdH x).map hdlV) ws) w) := by
 have hbK := h.2.1
 have h' := h.later ((Later.refl w).alloc (.cells #[.int .i64 0, .int .u32 0, .int .u8 0] 34))
 have HEV := Lib.hid h'.1
 obtain ⟨W0, hW0⟩ : ∃ W0, w.alloc (.cells #[.int .i64 0, .int .u32 0, .int .u8 0] 34) = W0 := ⟨_, rfl⟩
 obtain ⟨N, hN⟩ : ∃ N, w.heap.size = N := ⟨_, rfl⟩
 have hl0 : Later w W0 := by rw [← hW0]; exact (Later.refl w).alloc _
 have hN0 : N < W0.heap.size := by rw [← hW0, ← hN]; simp
 have hA : W0.heap[N]? = some (.cells #[.int .i64 0, .int .u32 0, .int .u8 0] 34 (0, 0)) := by rw [← hW0, ← hN]; exact (MapKept.heap_alloc w _).1
 rw [hW0] at h' HEV
 have HW0 := Lib.hid hW0
 have HN0 := Lib.hid hN
 have HA := Lib.hid hA
 have HB := Lib.hid (And.intro hl0 (And.intro hN0 (And.intro (show N ≠ b by omega) (show K ≤ N by omega))))
 clear hW0 hN hl0 hN0 hA hbK h
 have HE := Lib.hid (fun w' (hk : Only b w w') => (show RdEnd b K R ws none w wrongE w' from ⟨hk, rfl⟩))
 cases ws with
 | nil =>
  have HNX := Lib.hid (next_none b K R W0 h')
  clear h'
  show Calls Tryz.prog 131 #[.pointer (some ⟨b, 0, none⟩)] w (RdEnd b K R [] none w)
  go_enter Tryz.func131, Tryz.ntmps131
  go_wp2_with fail
  rw [HW0.out]
  refine HNX.out.mono ?_
  rintro e w1 ⟨rfl, rfl⟩
  have HF := Lib.hid (HE.out _ (Only.of_later HB.out.1))
  unfold wrongE
  go_wp2_with fail
  exact ⟨rfl, HF.out⟩
 | cons x t =>
  have HNX := Lib.hid (next_some b K R x t W0 h')
  have hx : x.length ≤ 90000000 := h'.2.2.2.2.elim fun v hv => hv.2.2 x List.mem_cons_self
  have HRD := Lib.hid (fun x1 y1 z1 k1 hE w1 (he : Laid w1) => Read_is x (by omega) x1 y1 z1 k1 hE w1 he)
  clear h' hx
  show Calls Tryz.prog 131 #[.pointer (some ⟨b, 0, none⟩)] w (RdEnd b K R (x :: t) ((rdH x).map hdlV) w)
  rcases rdH_end x with ⟨p, q, r, hr, hE⟩ | ⟨hr, hE⟩
  ·rw [hr]
   have HRD2 := Lib.hid (fun w1 he => HRD.out _ _ _ _ hE w1 he)
   show Calls Tryz.prog 131 #[.pointer (some ⟨b, 0, none⟩)] w (RdEnd b K R (x :: t) (some (.agg #[.int .i64 p, .int .u32 q, .int .u8 r])) w)
   have HG := Lib.hid (fun w' (hk : Only b w w') (hv : ∃ v', RdW b K (R.setIfInBounds 0 v') t w') => (show RdEnd b K R (x :: t) (some (.agg #[.int .i64 p, .int .u32 q, .int .u8 r])) w (.returned (.agg #[.int .i64 p, .int .u32 q, .int .u8 r])) w' from ⟨hk, rfl, hv⟩))
   clear hr hE HRD
   go_enter Tryz.func131, Tryz.ntmps131
   go_wp2_with fail
   rw [HW0.out, HN0.out]
   refine HNX.out.mono ?_
   rintro e w1 ⟨rfl, hk, v', hv'⟩
   have HK := Lib.hid hk
   have HV := Lib.hid hv'
   clear hk hv'
   go_wp2_with fail
   refine (HRD2.out _ (HEV.out.only HK.out).laid).mono ?_
   rintro e w2 ⟨rfl, hl⟩
   have HL := Lib.hid hl
   clear hl
   go_wp2_with fail
   obtain ⟨W3, hW3⟩ : ∃ W3, w2.alloc (.cells #[.int .i64 p, .int .u32 q, .int .u8 r] 34) = W3 := ⟨_, rfl⟩
   obtain ⟨M, hM⟩ : ∃ M, w2.heap.size = M := ⟨_, rfl⟩
   rw [hW3, hM]
   have hl3 : Later w2 W3 := by rw [← hW3]; exact (Later.refl w2).alloc _
   have hm : W3.heap[M]? = some (.cells #[.int .i64 p, .int .u32 q, .int .u8 r] 34 (0, 0)) := by rw [← hW3, ← hM]; exact (MapKept.heap_alloc w2 _).1
   have hN1 : N < w1.heap.size := Nat.lt_of_lt_of_le HB.out.2.1 HK.out.size
   have hN2 : N < w2.heap.size := Nat.lt_of_lt_of_le hN1 HL.out.size
   have hn3 : W3.heap[N]? = some (.cells #[.int .i64 0, .int .u32 0, .int .u8 0] 34 (0, 0)) := ((hl3.block N hN2).trans ((HL.out.block N hN1).trans (HK.out.block N HB.out.2.1 HB.out.2.2.1))).trans HA.out
   have HON := Lib.hid (show Only b w W3 from ((Only.of_later HB.out.1).trans HK.out).trans (Only.of_later (HL.out.trans hl3)))
   have HV3 := Lib.hid ((HV.out.later HL.out).later hl3)
   have a0 : W3.cell? ⟨N, 0, none⟩ = some (.int .i64 0) := by rw [Lib.cell_of_heap hn3]; rfl
   have a1 : W3.cell? ⟨N, 1, none⟩ = some (.int .u32 0) := by rw [Lib.cell_of_heap hn3]; rfl
   have a2 : W3.cell? ⟨N, 2, none⟩ = some (.int .u8 0) := by rw [Lib.cell_of_heap hn3]; rfl
   have f0 : W3.frozen? ⟨N, 0, none⟩ = false := Lib.frozen_of_heap hn3 0
   have f1 : W3.frozen? ⟨N, 1, none⟩ = false := Lib.frozen_of_heap hn3 1
   have f2 : W3.frozen? ⟨N, 2, none⟩ = false := Lib.frozen_of_heap hn3 2
   have m0 : W3.cell? ⟨M, 0, none⟩ = some (.int .i64 p) := by rw [Lib.cell_of_heap hm]; rfl
   have m1 : W3.cell? ⟨M, 1, none⟩ = some (.int .u32 q) := by rw [Lib.cell_of_heap hm]; rfl
   have m2 : W3.cell? ⟨M, 2, none⟩ = some (.int .u8 r) := by rw [Lib.cell_of_heap hm]; rfl
   have hMN : ¬ M = N := by omega
   clear hW3 hM hm hn3 hl3 hN1 hN2
   refine (must_true _).mono ?_
   rintro e w3 ⟨rfl, rfl⟩
   have HFIN := Lib.hid (show RdEnd b K R (x :: t) (some (.agg #[.int .i64 p, .int .u32 q, .int .u8 r])) w (.returned (.agg #[.int .i64 p, .int .u32 q, .int .u8 r])) (((w3.setCell ⟨N, 0, none⟩ (.int .i64 p)).setCell ⟨N, 1, none⟩ (.int .u32 q)).setCell ⟨N, 2, none⟩ (.int .u8 r)) by
    have hN9 : w.heap.size ≤ N := Nat.le_of_eq HN0.out
    have hb1 : Below K w3 (((w3.setCell ⟨N, 0, none⟩ (.int .i64 p)).setCell ⟨N, 1, none⟩ (.int .u32 q)).setCell ⟨N, 2, none⟩ (.int .u8 r)) := (((Below.refl K w3).setCell (p := ⟨N, 0, none⟩) HB.out.2.2.2 _).setCell (p := ⟨N, 1, none⟩) HB.out.2.2.2 _).setCell (p := ⟨N, 2, none⟩) HB.out.2.2.2 _
    exact HG.out _ (((HON.out.setNew N 0 _ hN9).setNew N 1 _ hN9).setNew N 2 _ hN9) ⟨v', HV3.out.below hb1⟩)
   go_wp2_with fail
   exact bodyPost_ret (v := .agg #[.int .i64 p, .int .u32 q, .int .u8 r]) (by simp [results, Tryz.results131, go_sem, a0, a1, a2]) rfl HFIN.out
  ·rw [hr]
   have HRD2 := Lib.hid (fun w1 he => HRD.out _ _ _ _ hE w1 he)
   show Calls Tryz.prog 131 #[.pointer (some ⟨b, 0, none⟩)] w (RdEnd b K R (x :: t) none w)
   clear hr hE HRD
   go_enter Tryz.func131, Tryz.ntmps131
   go_wp2_with fail
   rw [HW0.out]
   refine HNX.out.mono ?_
   rintro e w1 ⟨rfl, hk, v', hv'⟩
   have HK := Lib.hid hk
   clear hk hv'
   go_wp2_with fail
   refine (HRD2.out _ (HEV.out.only HK.out).laid).mono ?_
   rintro e w2 ⟨rfl, hl⟩
   have HL := Lib.hid hl
   clear hl
   go_wp2_with fail
   refine (must_false _).mono ?_
   rintro e w3 ⟨rfl, rfl⟩
   have HF := Lib.hid (HE.out _ (((Only.of_later HB.out.1).trans HK.out).trans (Only.of_later (HL.out.alloc (.cells #[.int .i64 0, .int .u32 0, .int .u8 0] 34)))))
   go_wp2_with fail
   exact ⟨rfl, HF.out⟩
end Go.Proofs.YtkbedajbbakihaaGreatDoor

/-
 The reader's methods that take a field of a request each, walked. Conditions: the reader is one of the call's own.
-/
namespace Go.Proofs.YtkbedajbbakihaaGreatDoor
open Go.RowKit Go.Sort Go.Lib
set_option linter.unusedSimpArgs false
set_option linter.unusedVariables false

/-- the reader's row with the request r -/
def reqRow (r : Req) (v : Value) : Array Value := #[v, .int .i64 r.deed, .int .i64 r.ht, .int .u32 r.hg, .int .u8 r.hr, strV r.key, strV r.val, strV r.old, .int .i64 r.lim, .int .i64 r.ten, .int .u64 r.qk, .int .u64 r.qb, .int .u8 r.rts,
 .int .i64 0, .string ⟨#[]⟩, .slice none 0 0, .int .i64 0, .int .u32 0, .int .u8 0, .int .u64 0, .int .u64 0, .int .u64 0, .int .u64 0, .int .u64 0, .int .u64 0, .int .u64 0, .int .u64 0, .int .u64 0, .int .u64 0, .complex .f64 0 0]
def RdQ (b K : Nat) (r : Req) (ws : List (List UInt8)) (w : World) : Prop := ∃ v, RdW b K (reqRow r v) ws w
theorem RdQ.below {b K : Nat} {r : Req} {ws : List (List UInt8)} {w w' : World} (h : RdQ b K r ws w) (hl : Below K w w') : RdQ b K r ws w' := h.elim fun v hv => ⟨v, hv.below hl⟩
theorem RdQ.later {b K : Nat} {r : Req} {ws : List (List UInt8)} {w w' : World} (h : RdQ b K r ws w) (hl : Later w w') : RdQ b K r ws w' := h.elim fun v hv => ⟨v, hv.later hl⟩
theorem RdQ.env {b K : Nat} {r : Req} {ws : List (List UInt8)} {w : World} (h : RdQ b K r ws w) : EnvB b w := h.elim fun _ hv => hv.1
theorem RdQ.cell {b K : Nat} {r : Req} {v : Value} {ws : List (List UInt8)} {w : World} (h : RdW b K (reqRow r v) ws w) (o : Nat) (u : Value) (hu : (reqRow r v)[o]? = some u) : w.cell? ⟨b, o, none⟩ = some u := by
 rw [Lib.cell_of_heap h.2.2.2.1]; exact hu
theorem RdQ.free {b K : Nat} {r : Req} {v : Value} {ws : List (List UInt8)} {w : World} (h : RdW b K (reqRow r v) ws w) (o : Nat) : w.frozen? ⟨b, o, none⟩ = false := Lib.frozen_of_heap h.2.2.2.1 o
/-- how a to-method ends -/
def FEnd (b K : Nat) (ws : List (List UInt8)) (res : Option Req) (w : World) (e : Ending) (w' : World) : Prop :=
 Only b w w' ∧ match res with
  | none => e = wrongE
  | some r => e = .returned (.tuple #[]) ∧ RdQ b K r ws.tail w'
noncomputable def stepW (f : Fld) (ws : List (List UInt8)) (r : Req) : Option Req := ws.head?.bind fun x => stepF f x r
theorem firstW_none {f : List UInt8 → Option Value} {ws : List (List UInt8)} (h : ws.head?.bind f = none) : firstW f ws = none := by
 cases ws with
 | nil => rfl
 | cons x t => exact h
theorem firstW_some {f : List UInt8 → Option Value} {ws : List (List UInt8)} {u : Value} (h : ws.head?.bind f = some u) : firstW f ws = some u := by
 cases ws with
 | nil => cases h
 | cons x t => exact h

set_option maxRecDepth 100000 in
theorem to_key (b K : Nat) (r : Req) (ws : List (List UInt8)) (w : World) (h : RdQ b K r ws w) :
  Calls Tryz.prog 97 #[.pointer (some ⟨b, 0, none⟩)] w (FEnd b K ws (stepW .key ws r) w) := by
 obtain ⟨v, hv⟩ := h
 have hC := bytes_is b K (reqRow r v) ws w hv
 clear hv
 cases hx : ws.head?.bind unword with
 | none =>
  have e1 : stepW .key ws r = none := by
   unfold stepW
   cases ws with
   | nil => rfl
   | cons x t => show (unword x).map _ = none; rw [show unword x = none from hx]; rfl
  have e2 : firstW (fun x => (unword x).map strV) ws = none := firstW_none (by cases ws with
   | nil => rfl
   | cons x t => show (unword x).map _ = none; rw [show unword x = none from hx]; rfl)
  rw [e1]
  rw [e2] at hC
  have HC := Lib.hid hC
  have HE := Lib.hid (fun w' (hk : Only b w w') => (show FEnd b K ws none w wrongE w' from ⟨hk, rfl⟩))
  clear hC e1 e2 hx
  go_enter Tryz.func97, Tryz.ntmps97
  go_wp2_with fail
  refine HC.out.mono ?_
  rintro e w1 ⟨hk, he⟩
  have HF := Lib.hid (HE.out _ hk)
  cases he
  clear hk
  unfold wrongE
  go_wp2_with fail
  exact ⟨rfl, HF.out⟩
 | some x =>
  have e1 : stepW .key ws r = some { r with key := x } := by
   unfold stepW
   cases ws with
   | nil => cases hx
   | cons y t => show (unword y).map _ = _; rw [show unword y = some x from hx]; rfl
  have e2 : firstW (fun x => (unword x).map strV) ws = some (strV x) := firstW_some (by cases ws with
   | nil => cases hx
   | cons y t => show (unword y).map _ = _; rw [show unword y = some x from hx]; rfl)
  rw [e1]
  rw [e2] at hC
  have HC := Lib.hid hC
  have HG := Lib.hid (fun w1 (hk : Only b w w1) v' (hv : RdW b K ((reqRow r v).setIfInBounds 0 v') ws.tail w1) => (show FEnd b K ws (some { r with key := x }) w (.returned (.tuple #[])) (w1.setCell ⟨b, 5, none⟩ (strV x)) from
   have h1 := hv.store 5 (strV x) (by omega)
   ⟨hk.trans h1.2, rfl, v', h1.1⟩))
  clear hC e1 e2 hx
  unfold strV at HC HG
  go_enter Tryz.func97, Tryz.ntmps97
  go_wp2_with fail
  refine HC.out.mono ?_
  rintro e w1 ⟨hk, he, v', hv'⟩
  have hv2 : RdW b K (reqRow r v') ws.tail w1 := hv'
  have c1 := RdQ.cell hv2 5 (strV r.key) rfl
  have f1 := RdQ.free hv2 5
  unfold strV at c1
  have HF := Lib.hid (HG.out _ hk v' hv')
  cases he
  clear hk hv' hv2
  go_wp2_with fail
  go_end0
  exact HF.out

set_option maxRecDepth 100000 in
theorem to_val (b K : Nat) (r : Req) (ws : List (List UInt8)) (w : World) (h : RdQ b K r ws w) :
  Calls Tryz.prog 99 #[.pointer (some ⟨b, 0, none⟩)] w (FEnd b K ws (stepW .val ws r) w) := by
 obtain ⟨v, hv⟩ := h
 have hC := bytes_is b K (reqRow r v) ws w hv
 clear hv
 cases hx : ws.head?.bind unword with
 | none =>
  have e1 : stepW .val ws r = none := by
   unfold stepW
   cases ws with
   | nil => rfl
   | cons x t => show (unword x).map _ = none; rw [show unword x = none from hx]; rfl
  have e2 : firstW (fun x => (unword x).map strV) ws = none := firstW_none (by cases ws with
   | nil => rfl
   | cons x t => show (unword x).map _ = none; rw [show unword x = none from hx]; rfl)
  rw [e1]
  rw [e2] at hC
  have HC := Lib.hid hC
  have HE := Lib.hid (fun w' (hk : Only b w w') => (show FEnd b K ws none w wrongE w' from ⟨hk, rfl⟩))
  clear hC e1 e2 hx
  go_enter Tryz.func99, Tryz.ntmps99
  go_wp2_with fail
  refine HC.out.mono ?_
  rintro e w1 ⟨hk, he⟩
  have HF := Lib.hid (HE.out _ hk)
  cases he
  clear hk
  unfold wrongE
  go_wp2_with fail
  exact ⟨rfl, HF.out⟩
 | some x =>
  have e1 : stepW .val ws r = some { r with val := x } := by
   unfold stepW
   cases ws with
   | nil => cases hx
   | cons y t => show (unword y).map _ = _; rw [show unword y = some x from hx]; rfl
  have e2 : firstW (fun x => (unword x).map strV) ws = some (strV x) := firstW_some (by cases ws with
   | nil => cases hx
   | cons y t => show (unword y).map _ = _; rw [show unword y = some x from hx]; rfl)
  rw [e1]
  rw [e2] at hC
  have HC := Lib.hid hC
  have HG := Lib.hid (fun w1 (hk : Only b w w1) v' (hv : RdW b K ((reqRow r v).setIfInBounds 0 v') ws.tail w1) => (show FEnd b K ws (some { r with val := x }) w (.returned (.tuple #[])) (w1.setCell ⟨b, 6, none⟩ (strV x)) from
   have h1 := hv.store 6 (strV x) (by omega)
   ⟨hk.trans h1.2, rfl, v', h1.1⟩))
  clear hC e1 e2 hx
  unfold strV at HC HG
  go_enter Tryz.func99, Tryz.ntmps99
  go_wp2_with fail
  refine HC.out.mono ?_
  rintro e w1 ⟨hk, he, v', hv'⟩
  have hv2 : RdW b K (reqRow r v') ws.tail w1 := hv'
  have c1 := RdQ.cell hv2 6 (strV r.val) rfl
  have f1 := RdQ.free hv2 6
  unfold strV at c1
  have HF := Lib.hid (HG.out _ hk v' hv')
  cases he
  clear hk hv' hv2
  go_wp2_with fail
  go_end0
  exact HF.out

set_option maxRecDepth 100000 in
theorem to_old (b K : Nat) (r : Req) (ws : List (List UInt8)) (w : World) (h : RdQ b K r ws w) :
  Calls Tryz.prog 102 #[.pointer (some ⟨b, 0, none⟩)] w (FEnd b K ws (stepW .old ws r) w) := by
 obtain ⟨v, hv⟩ := h
 have hC := bytes_is b K (reqRow r v) ws w hv
 clear hv
 cases hx : ws.head?.bind unword with
 | none =>
  have e1 : stepW .old ws r = none := by
   unfold stepW
   cases ws with
   | nil => rfl
   | cons x t => show (unword x).map _ = none; rw [show unword x = none from hx]; rfl
  have e2 : firstW (fun x => (unword x).map strV) ws = none := firstW_none (by cases ws with
   | nil => rfl
   | cons x t => show (unword x).map _ = none; rw [show unword x = none from hx]; rfl)
  rw [e1]
  rw [e2] at hC
  have HC := Lib.hid hC
  have HE := Lib.hid (fun w' (hk : Only b w w') => (show FEnd b K ws none w wrongE w' from ⟨hk, rfl⟩))
  clear hC e1 e2 hx
  go_enter Tryz.func102, Tryz.ntmps102
  go_wp2_with fail
  refine HC.out.mono ?_
  rintro e w1 ⟨hk, he⟩
  have HF := Lib.hid (HE.out _ hk)
  cases he
  clear hk
  unfold wrongE
  go_wp2_with fail
  exact ⟨rfl, HF.out⟩
 | some x =>
  have e1 : stepW .old ws r = some { r with old := x } := by
   unfold stepW
   cases ws with
   | nil => cases hx
   | cons y t => show (unword y).map _ = _; rw [show unword y = some x from hx]; rfl
  have e2 : firstW (fun x => (unword x).map strV) ws = some (strV x) := firstW_some (by cases ws with
   | nil => cases hx
   | cons y t => show (unword y).map _ = _; rw [show unword y = some x from hx]; rfl)
  rw [e1]
  rw [e2] at hC
  have HC := Lib.hid hC
  have HG := Lib.hid (fun w1 (hk : Only b w w1) v' (hv : RdW b K ((reqRow r v).setIfInBounds 0 v') ws.tail w1) => (show FEnd b K ws (some { r with old := x }) w (.returned (.tuple #[])) (w1.setCell ⟨b, 7, none⟩ (strV x)) from
   have h1 := hv.store 7 (strV x) (by omega)
   ⟨hk.trans h1.2, rfl, v', h1.1⟩))
  clear hC e1 e2 hx
  unfold strV at HC HG
  go_enter Tryz.func102, Tryz.ntmps102
  go_wp2_with fail
  refine HC.out.mono ?_
  rintro e w1 ⟨hk, he, v', hv'⟩
  have hv2 : RdW b K (reqRow r v') ws.tail w1 := hv'
  have c1 := RdQ.cell hv2 7 (strV r.old) rfl
  have f1 := RdQ.free hv2 7
  unfold strV at c1
  have HF := Lib.hid (HG.out _ hk v' hv')
  cases he
  clear hk hv' hv2
  go_wp2_with fail
  go_end0
  exact HF.out

set_option maxRecDepth 100000 in
theorem to_lim (b K : Nat) (r : Req) (ws : List (List UInt8)) (w : World) (h : RdQ b K r ws w) :
  Calls Tryz.prog 104 #[.pointer (some ⟨b, 0, none⟩)] w (FEnd b K ws (stepW .lim ws r) w) := by
 obtain ⟨v, hv⟩ := h
 have hC := numb_is b K (reqRow r v) ws w hv
 clear hv
 cases hx : ws.head?.bind num with
 | none =>
  have e1 : stepW .lim ws r = none := by
   unfold stepW
   cases ws with
   | nil => rfl
   | cons x t => show (num x).map _ = none; rw [show num x = none from hx]; rfl
  have e2 : firstW (fun x => (num x).map i64V) ws = none := firstW_none (by cases ws with
   | nil => rfl
   | cons x t => show (num x).map _ = none; rw [show num x = none from hx]; rfl)
  rw [e1]
  rw [e2] at hC
  have HC := Lib.hid hC
  have HE := Lib.hid (fun w' (hk : Only b w w') => (show FEnd b K ws none w wrongE w' from ⟨hk, rfl⟩))
  clear hC e1 e2 hx
  go_enter Tryz.func104, Tryz.ntmps104
  go_wp2_with fail
  refine HC.out.mono ?_
  rintro e w1 ⟨hk, he⟩
  have HF := Lib.hid (HE.out _ hk)
  cases he
  clear hk
  unfold wrongE
  go_wp2_with fail
  exact ⟨rfl, HF.out⟩
 | some x =>
  have e1 : stepW .lim ws r = some { r with lim := x } := by
   unfold stepW
   cases ws with
   | nil => cases hx
   | cons y t => show (num y).map _ = _; rw [show num y = some x from hx]; rfl
  have e2 : firstW (fun x => (num x).map i64V) ws = some (.int .i64 x) := firstW_some (by cases ws with
   | nil => cases hx
   | cons y t => show (num y).map _ = _; rw [show num y = some x from hx]; rfl)
  rw [e1]
  rw [e2] at hC
  have HC := Lib.hid hC
  have HG := Lib.hid (fun w1 (hk : Only b w w1) v' (hv : RdW b K ((reqRow r v).setIfInBounds 0 v') ws.tail w1) => (show FEnd b K ws (some { r with lim := x }) w (.returned (.tuple #[])) (w1.setCell ⟨b, 8, none⟩ (.int .i64 x)) from
   have h1 := hv.store 8 (.int .i64 x) (by omega)
   ⟨hk.trans h1.2, rfl, v', h1.1⟩))
  clear hC e1 e2 hx
  
  go_enter Tryz.func104, Tryz.ntmps104
  go_wp2_with fail
  refine HC.out.mono ?_
  rintro e w1 ⟨hk, he, v', hv'⟩
  have hv2 : RdW b K (reqRow r v') ws.tail w1 := hv'
  have c1 := RdQ.cell hv2 8 (.int .i64 r.lim) rfl
  have f1 := RdQ.free hv2 8
  
  have HF := Lib.hid (HG.out _ hk v' hv')
  cases he
  clear hk hv' hv2
  go_wp2_with fail
  go_end0
  exact HF.out

set_option maxRecDepth 100000 in
theorem to_ten (b K : Nat) (r : Req) (ws : List (List UInt8)) (w : World) (h : RdQ b K r ws w) :
  Calls Tryz.prog 107 #[.pointer (some ⟨b, 0, none⟩)] w (FEnd b K ws (stepW .ten ws r) w) := by
 obtain ⟨v, hv⟩ := h
 have hC := numb_is b K (reqRow r v) ws w hv
 clear hv
 cases hx : ws.head?.bind num with
 | none =>
  have e1 : stepW .ten ws r = none := by
   unfold stepW
   cases ws with
   | nil => rfl
   | cons x t => show (num x).map _ = none; rw [show num x = none from hx]; rfl
  have e2 : firstW (fun x => (num x).map i64V) ws = none := firstW_none (by cases ws with
   | nil => rfl
   | cons x t => show (num x).map _ = none; rw [show num x = none from hx]; rfl)
  rw [e1]
  rw [e2] at hC
  have HC := Lib.hid hC
  have HE := Lib.hid (fun w' (hk : Only b w w') => (show FEnd b K ws none w wrongE w' from ⟨hk, rfl⟩))
  clear hC e1 e2 hx
  go_enter Tryz.func107, Tryz.ntmps107
  go_wp2_with fail
  refine HC.out.mono ?_
  rintro e w1 ⟨hk, he⟩
  have HF := Lib.hid (HE.out _ hk)
  cases he
  clear hk
  unfold wrongE
  go_wp2_with fail
  exact ⟨rfl, HF.out⟩
 | some x =>
  have e1 : stepW .ten ws r = some { r with ten := x } := by
   unfold stepW
   cases ws with
   | nil => cases hx
   | cons y t => show (num y).map _ = _; rw [show num y = some x from hx]; rfl
  have e2 : firstW (fun x => (num x).map i64V) ws = some (.int .i64 x) := firstW_some (by cases ws with
   | nil => cases hx
   | cons y t => show (num y).map _ = _; rw [show num y = some x from hx]; rfl)
  rw [e1]
  rw [e2] at hC
  have HC := Lib.hid hC
  have HG := Lib.hid (fun w1 (hk : Only b w w1) v' (hv : RdW b K ((reqRow r v).setIfInBounds 0 v') ws.tail w1) => (show FEnd b K ws (some { r with ten := x }) w (.returned (.tuple #[])) (w1.setCell ⟨b, 9, none⟩ (.int .i64 x)) from
   have h1 := hv.store 9 (.int .i64 x) (by omega)
   ⟨hk.trans h1.2, rfl, v', h1.1⟩))
  clear hC e1 e2 hx
  
  go_enter Tryz.func107, Tryz.ntmps107
  go_wp2_with fail
  refine HC.out.mono ?_
  rintro e w1 ⟨hk, he, v', hv'⟩
  have hv2 : RdW b K (reqRow r v') ws.tail w1 := hv'
  have c1 := RdQ.cell hv2 9 (.int .i64 r.ten) rfl
  have f1 := RdQ.free hv2 9
  
  have HF := Lib.hid (HG.out _ hk v' hv')
  cases he
  clear hk hv' hv2
  go_wp2_with fail
  go_end0
  exact HF.out

set_option maxRecDepth 100000 in
theorem to_qk (b K : Nat) (r : Req) (ws : List (List UInt8)) (w : World) (h : RdQ b K r ws w) :
  Calls Tryz.prog 108 #[.pointer (some ⟨b, 0, none⟩)] w (FEnd b K ws (stepW .qk ws r) w) := by
 obtain ⟨v, hv⟩ := h
 have hC := large_is b K (reqRow r v) ws w hv
 clear hv
 cases hx : ws.head?.bind lrg with
 | none =>
  have e1 : stepW .qk ws r = none := by
   unfold stepW
   cases ws with
   | nil => rfl
   | cons x t => show (lrg x).map _ = none; rw [show lrg x = none from hx]; rfl
  have e2 : firstW (fun x => (lrg x).map u64V) ws = none := firstW_none (by cases ws with
   | nil => rfl
   | cons x t => show (lrg x).map _ = none; rw [show lrg x = none from hx]; rfl)
  rw [e1]
  rw [e2] at hC
  have HC := Lib.hid hC
  have HE := Lib.hid (fun w' (hk : Only b w w') => (show FEnd b K ws none w wrongE w' from ⟨hk, rfl⟩))
  clear hC e1 e2 hx
  go_enter Tryz.func108, Tryz.ntmps108
  go_wp2_with fail
  refine HC.out.mono ?_
  rintro e w1 ⟨hk, he⟩
  have HF := Lib.hid (HE.out _ hk)
  cases he
  clear hk
  unfold wrongE
  go_wp2_with fail
  exact ⟨rfl, HF.out⟩
 | some x =>
  have e1 : stepW .qk ws r = some { r with qk := x } := by
   unfold stepW
   cases ws with
   | nil => cases hx
   | cons y t => show (lrg y).map _ = _; rw [show lrg y = some x from hx]; rfl
  have e2 : firstW (fun x => (lrg x).map u64V) ws = some (.int .u64 (x : Int)) := firstW_some (by cases ws with
   | nil => cases hx
   | cons y t => show (lrg y).map _ = _; rw [show lrg y = some x from hx]; rfl)
  rw [e1]
  rw [e2] at hC
  have HC := Lib.hid hC
  have HG := Lib.hid (fun w1 (hk : Only b w w1) v' (hv : RdW b K ((reqRow r v).setIfInBounds 0 v') ws.tail w1) => (show FEnd b K ws (some { r with qk := x }) w (.returned (.tuple #[])) (w1.setCell ⟨b, 10, none⟩ (.int .u64 (x : Int))) from
   have h1 := hv.store 10 (.int .u64 (x : Int)) (by omega)
   ⟨hk.trans h1.2, rfl, v', h1.1⟩))
  clear hC e1 e2 hx
  
  go_enter Tryz.func108, Tryz.ntmps108
  go_wp2_with fail
  refine HC.out.mono ?_
  rintro e w1 ⟨hk, he, v', hv'⟩
  have hv2 : RdW b K (reqRow r v') ws.tail w1 := hv'
  have c1 := RdQ.cell hv2 10 (.int .u64 r.qk) rfl
  have f1 := RdQ.free hv2 10
  
  have HF := Lib.hid (HG.out _ hk v' hv')
  cases he
  clear hk hv' hv2
  go_wp2_with fail
  go_end0
  exact HF.out

set_option maxRecDepth 100000 in
theorem to_qb (b K : Nat) (r : Req) (ws : List (List UInt8)) (w : World) (h : RdQ b K r ws w) :
  Calls Tryz.prog 109 #[.pointer (some ⟨b, 0, none⟩)] w (FEnd b K ws (stepW .qb ws r) w) := by
 obtain ⟨v, hv⟩ := h
 have hC := large_is b K (reqRow r v) ws w hv
 clear hv
 cases hx : ws.head?.bind lrg with
 | none =>
  have e1 : stepW .qb ws r = none := by
   unfold stepW
   cases ws with
   | nil => rfl
   | cons x t => show (lrg x).map _ = none; rw [show lrg x = none from hx]; rfl
  have e2 : firstW (fun x => (lrg x).map u64V) ws = none := firstW_none (by cases ws with
   | nil => rfl
   | cons x t => show (lrg x).map _ = none; rw [show lrg x = none from hx]; rfl)
  rw [e1]
  rw [e2] at hC
  have HC := Lib.hid hC
  have HE := Lib.hid (fun w' (hk : Only b w w') => (show FEnd b K ws none w wrongE w' from ⟨hk, rfl⟩))
  clear hC e1 e2 hx
  go_enter Tryz.func109, Tryz.ntmps109
  go_wp2_with fail
  refine HC.out.mono ?_
  rintro e w1 ⟨hk, he⟩
  have HF := Lib.hid (HE.out _ hk)
  cases he
  clear hk
  unfold wrongE
  go_wp2_with fail
  exact ⟨rfl, HF.out⟩
 | some x =>
  have e1 : stepW .qb ws r = some { r with qb := x } := by
   unfold stepW
   cases ws with
   | nil => cases hx
   | cons y t => show (lrg y).map _ = _; rw [show lrg y = some x from hx]; rfl
  have e2 : firstW (fun x => (lrg x).map u64V) ws = some (.int .u64 (x : Int)) := firstW_some (by cases ws with
   | nil => cases hx
   | cons y t => show (lrg y).map _ = _; rw [show lrg y = some x from hx]; rfl)
  rw [e1]
  rw [e2] at hC
  have HC := Lib.hid hC
  have HG := Lib.hid (fun w1 (hk : Only b w w1) v' (hv : RdW b K ((reqRow r v).setIfInBounds 0 v') ws.tail w1) => (show FEnd b K ws (some { r with qb := x }) w (.returned (.tuple #[])) (w1.setCell ⟨b, 11, none⟩ (.int .u64 (x : Int))) from
   have h1 := hv.store 11 (.int .u64 (x : Int)) (by omega)
   ⟨hk.trans h1.2, rfl, v', h1.1⟩))
  clear hC e1 e2 hx
  
  go_enter Tryz.func109, Tryz.ntmps109
  go_wp2_with fail
  refine HC.out.mono ?_
  rintro e w1 ⟨hk, he, v', hv'⟩
  have hv2 : RdW b K (reqRow r v') ws.tail w1 := hv'
  have c1 := RdQ.cell hv2 11 (.int .u64 r.qb) rfl
  have f1 := RdQ.free hv2 11
  
  have HF := Lib.hid (HG.out _ hk v' hv')
  cases he
  clear hk hv' hv2
  go_wp2_with fail
  go_end0
  exact HF.out

set_option maxRecDepth 100000 in
theorem to_hdl (b K : Nat) (r : Req) (ws : List (List UInt8)) (w : World) (h : RdQ b K r ws w) :
  Calls Tryz.prog 96 #[.pointer (some ⟨b, 0, none⟩)] w (FEnd b K ws (stepW .hdl ws r) w) := by
 obtain ⟨v, hv⟩ := h
 have hC := handle_is b K (reqRow r v) ws w hv
 clear hv
 cases hx : ws.head?.bind rdH with
 | none =>
  have e1 : stepW .hdl ws r = none := by
   unfold stepW
   cases ws with
   | nil => rfl
   | cons x t => show (rdH x).map _ = none; rw [show rdH x = none from hx]; rfl
  have e2 : firstW (fun x => (rdH x).map hdlV) ws = none := firstW_none (by cases ws with
   | nil => rfl
   | cons x t => show (rdH x).map _ = none; rw [show rdH x = none from hx]; rfl)
  rw [e1]
  rw [e2] at hC
  have HC := Lib.hid hC
  have HE := Lib.hid (fun w' (hk : Only b w w') => (show FEnd b K ws none w wrongE w' from ⟨hk, rfl⟩))
  clear hC e1 e2 hx
  go_enter Tryz.func96, Tryz.ntmps96
  go_wp2_with fail
  refine HC.out.mono ?_
  rintro e w1 ⟨hk, he⟩
  have HF := Lib.hid (HE.out _ hk)
  cases he
  clear hk
  unfold wrongE
  go_wp2_with fail
  exact ⟨rfl, HF.out⟩
 | some x =>
  obtain ⟨p, q, g⟩ := x
  have e1 : stepW .hdl ws r = some { r with ht := p, hg := q, hr := g } := by
   unfold stepW
   cases ws with
   | nil => cases hx
   | cons y t => show (rdH y).map _ = _; rw [show rdH y = some (p, q, g) from hx]; rfl
  have e2 : firstW (fun x => (rdH x).map hdlV) ws = some (.agg #[.int .i64 p, .int .u32 q, .int .u8 g]) := firstW_some (by cases ws with
   | nil => cases hx
   | cons y t => show (rdH y).map _ = _; rw [show rdH y = some (p, q, g) from hx]; rfl)
  rw [e1]
  rw [e2] at hC
  have HC := Lib.hid hC
  have HG := Lib.hid (fun w1 (hk : Only b w w1) v' (hv : RdW b K ((reqRow r v).setIfInBounds 0 v') ws.tail w1) => (show FEnd b K ws (some { r with ht := p, hg := q, hr := g }) w (.returned (.tuple #[])) (((w1.setCell ⟨b, 2, none⟩ (.int .i64 p)).setCell ⟨b, 3, none⟩ (.int .u32 q)).setCell ⟨b, 4, none⟩ (.int .u8 g)) from
   have h1 := hv.store 2 (.int .i64 p) (by omega)
   have h2 := h1.1.store 3 (.int .u32 q) (by omega)
   have h3 := h2.1.store 4 (.int .u8 g) (by omega)
   ⟨((hk.trans h1.2).trans h2.2).trans h3.2, rfl, v', h3.1⟩))
  clear hC e1 e2 hx
  go_enter Tryz.func96, Tryz.ntmps96
  go_wp2_with fail
  refine HC.out.mono ?_
  rintro e w1 ⟨hk, he, v', hv'⟩
  have hv2 : RdW b K (reqRow r v') ws.tail w1 := hv'
  have c2 := RdQ.cell hv2 2 (.int .i64 r.ht) rfl
  have f2 := RdQ.free hv2 2
  have c3 := RdQ.cell hv2 3 (.int .u32 r.hg) rfl
  have f3 := RdQ.free hv2 3
  have c4 := RdQ.cell hv2 4 (.int .u8 r.hr) rfl
  have f4 := RdQ.free hv2 4
  have HF := Lib.hid (HG.out _ hk v' hv')
  cases he
  clear hk hv' hv2
  go_wp2_with fail
  go_end0
  exact HF.out

set_option maxRecDepth 100000 in
theorem to_rts (b K : Nat) (r : Req) (ws : List (List UInt8)) (w : World) (h : RdQ b K r ws w) :
  Calls Tryz.prog 113 #[.pointer (some ⟨b, 0, none⟩)] w (FEnd b K ws (stepW .rts ws r) w) := by
 obtain ⟨v, hv⟩ := h
 cases ws with
 | nil =>
  have HN := Lib.hid (next_none b K _ w hv)
  have HE := Lib.hid (show FEnd b K [] none w wrongE w from ⟨Only.refl _ _, rfl⟩)
  clear hv
  show Calls Tryz.prog 113 #[.pointer (some ⟨b, 0, none⟩)] w (FEnd b K [] none w)
  go_enter Tryz.func113, Tryz.ntmps113
  go_wp2_with fail
  refine HN.out.mono ?_
  rintro e w1 ⟨rfl, rfl⟩
  unfold wrongE
  go_wp2_with fail
  exact ⟨rfl, HE.out⟩
 | cons x t =>
  have HN := Lib.hid (next_some b K _ x t w hv)
  have hx : x.length ≤ 90000000 := hv.2.2.2.2.elim fun v hv => hv.2.2 x List.mem_cons_self
  have HEV := Lib.hid hv.1
  obtain ⟨S, hS⟩ : ∃ S : ByteArray, S = ⟨x.toArray⟩ := ⟨_, rfl⟩
  have hs : S.size ≤ 90000000 := by rw [hS]; simpa [ByteArray.size] using hx
  have hcat : (⟨#[49, 46, 49, 46]⟩ : ByteArray) ++ S = ⟨(49 :: 46 :: 49 :: 46 :: x).toArray⟩ := by
   rw [hS]; exact str_app [49, 46, 49, 46] x
  have HRD := Lib.hid (fun x1 y1 z1 k1 (hE : ReadEnd (49 :: 46 :: 49 :: 46 :: x) x1 y1 z1 k1) w1 (he : Laid w1) => show Calls Tryz.prog 140 #[.string (⟨#[49, 46, 49, 46]⟩ ++ S)] w1 fun e w' => e = .returned (.tuple #[.agg #[.int .i64 x1, .int .u32 y1, .int .u8 z1], .int .i64 k1]) ∧ Later w1 w' by
   rw [hcat]
   exact Read_is (49 :: 46 :: 49 :: 46 :: x) (by simp; omega) x1 y1 z1 k1 hE w1 he)
  rw [← hS] at HN
  have hc1 : ¬ 9223372036854775807 < 4 + S.size := by omega
  clear hv hx hS hs hcat
  show Calls Tryz.prog 113 #[.pointer (some ⟨b, 0, none⟩)] w (FEnd b K (x :: t) ((rdH (49 :: 46 :: 49 :: 46 :: x)).map fun y => { r with rts := y.2.2 }) w)
  rcases rdH_end (49 :: 46 :: 49 :: 46 :: x) with ⟨p, q, g, hr, hE⟩ | ⟨hr, hE⟩
  ·rw [hr]
   have HRD2 := Lib.hid (fun w1 he => HRD.out _ _ _ _ hE w1 he)
   show Calls Tryz.prog 113 #[.pointer (some ⟨b, 0, none⟩)] w (FEnd b K (x :: t) (some { r with rts := g }) w)
   have HG := Lib.hid (fun w1 (hk : Only b w w1) v' (hv : RdW b K ((reqRow r v).setIfInBounds 0 v') t w1) => (show FEnd b K (x :: t) (some { r with rts := g }) w (.returned (.tuple #[])) (w1.setCell ⟨b, 12, none⟩ (.int .u8 g)) from
    have h1 := hv.store 12 (.int .u8 g) (by omega)
    ⟨hk.trans h1.2, rfl, v', h1.1⟩))
   clear hr hE HRD
   go_enter Tryz.func113, Tryz.ntmps113
   go_wp2_with fail
   refine HN.out.mono ?_
   rintro e w1 ⟨rfl, hk, v', hv'⟩
   have HK := Lib.hid hk
   have HV := Lib.hid hv'
   clear hk hv'
   go_wp2_with fail
   refine (HRD2.out _ (HEV.out.only HK.out).laid).mono ?_
   rintro e w2 ⟨rfl, hl⟩
   have HL := Lib.hid hl
   clear hl
   go_wp2_with fail
   obtain ⟨W3, hW3⟩ : ∃ W3, w2.alloc (.cells #[.int .i64 p, .int .u32 q, .int .u8 g] 34) = W3 := ⟨_, rfl⟩
   obtain ⟨M, hM⟩ : ∃ M, w2.heap.size = M := ⟨_, rfl⟩
   rw [hW3, hM]
   have hl3 : Later w2 W3 := by rw [← hW3]; exact (Later.refl w2).alloc _
   have hm : W3.heap[M]? = some (.cells #[.int .i64 p, .int .u32 q, .int .u8 g] 34 (0, 0)) := by rw [← hW3, ← hM]; exact (MapKept.heap_alloc w2 _).1
   have m2 : W3.cell? ⟨M, 2, none⟩ = some (.int .u8 g) := by rw [Lib.cell_of_heap hm]; rfl
   have hv3 : RdW b K (reqRow r v') t W3 := (HV.out.later HL.out).later hl3
   have c1 := RdQ.cell hv3 12 (.int .u8 r.rts) rfl
   have f1 := RdQ.free hv3 12
   have HF := Lib.hid (HG.out W3 (HK.out.trans (Only.of_later (HL.out.trans hl3))) v' hv3)
   clear hW3 hM hl3 hm hv3
   refine (must_true _).mono ?_
   rintro e w4 ⟨rfl, rfl⟩
   go_wp2_with fail
   go_end0
   exact HF.out
  ·rw [hr]
   have HRD2 := Lib.hid (fun w1 he => HRD.out _ _ _ _ hE w1 he)
   show Calls Tryz.prog 113 #[.pointer (some ⟨b, 0, none⟩)] w (FEnd b K (x :: t) none w)
   have HE := Lib.hid (fun w' (hk : Only b w w') => (show FEnd b K (x :: t) none w wrongE w' from ⟨hk, rfl⟩))
   clear hr hE HRD
   go_enter Tryz.func113, Tryz.ntmps113
   go_wp2_with fail
   refine HN.out.mono ?_
   rintro e w1 ⟨rfl, hk, v', hv'⟩
   have HK := Lib.hid hk
   clear hk hv'
   go_wp2_with fail
   refine (HRD2.out _ (HEV.out.only HK.out).laid).mono ?_
   rintro e w2 ⟨rfl, hl⟩
   have HL := Lib.hid hl
   clear hl
   go_wp2_with fail
   refine (must_false _).mono ?_
   rintro e w3 ⟨rfl, rfl⟩
   have HF := Lib.hid (HE.out _ (HK.out.trans (Only.of_later (HL.out.alloc (.cells #[.int .i64 0, .int .u32 0, .int .u8 0] 34)))))
   go_wp2_with fail
   exact ⟨rfl, HF.out⟩
/-- the function that takes a field -/
def fnF : Fld → Nat
 | .hdl => 96
 | .key => 97
 | .val => 99
 | .old => 102
 | .lim => 104
 | .ten => 107
 | .qk => 108
 | .qb => 109
 | .rts => 113
theorem to_is (f : Fld) (b K : Nat) (r : Req) (ws : List (List UInt8)) (w : World) (h : RdQ b K r ws w) :
  Calls Tryz.prog (fnF f) #[.pointer (some ⟨b, 0, none⟩)] w (FEnd b K ws (stepW f ws r) w) := by
 cases f with
 | hdl => exact to_hdl b K r ws w h
 | key => exact to_key b K r ws w h
 | val => exact to_val b K r ws w h
 | old => exact to_old b K r ws w h
 | lim => exact to_lim b K r ws w h
 | ten => exact to_ten b K r ws w h
 | qk => exact to_qk b K r ws w h
 | qb => exact to_qb b K r ws w h
 | rts => exact to_rts b K r ws w h
end Go.Proofs.YtkbedajbbakihaaGreatDoor
