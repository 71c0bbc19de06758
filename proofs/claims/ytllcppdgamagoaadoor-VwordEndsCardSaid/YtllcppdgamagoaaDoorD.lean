/-
  vword.Show and the reference's Show write the same text: the decimal digits of the version, then the marks. Conditions: the word is a 64-bit number; the table of powers of ten reads as the program's text lays it.
-/
import Derived.Test.YtllcppdgamagoaaDoorB
import Derived.Test.YtllcppdgamagoaaDoorC

import Derived.LoopTactic
namespace Go.Proofs.YtllcppdgamagoaaDoor
open Go.RowKit Go.Sort Go.Lib

theorem var_later {w w' : World} {n : String} {cs : Array Value} (hl : Later w w') (h : w.var? Tryd.prog n = some cs) : w'.var? Tryd.prog n = some cs := by
  have h0 := h
  unfold World.var? at h0
  rcases hg : Tryd.prog.globalNamed n with _ | g
  · rw [hg] at h0; cases h0
  · rw [hg, Option.bind_some] at h0
    have hlt : g < w.heap.size := by
      rcases Nat.lt_or_ge g w.heap.size with hlt | hge
      · exact hlt
      · rw [Array.getElem?_eq_none hge] at h0; cases h0
    exact var?_below hl hg hlt h
theorem Tab.later {w w' : World} (h : Tab w) (hl : Later w w') : Tab w' := var_later hl h

/-- the text of a word: the digits of its version, then its marks -/
def showL (u : Nat) (p q : Bool) : List UInt8 := Lib.decDigits u ++ ((if p then [43] else []) ++ (if q then [120] else []))

theorem str_app (l m : List UInt8) : (⟨l.toArray⟩ : ByteArray) ++ ⟨m.toArray⟩ = ⟨(l ++ m).toArray⟩ := by
  apply ByteArray.ext
  simp
theorem digits_le (u : Nat) (hu : u < 18446744073709551616) : (Lib.decDigits u).length ≤ 20 := by
  rw [Lib.decDigits_length]
  by_cases h0 : u = 0
  · subst h0; rw [Lib.nDigits_small (by omega)]; omega
  · have := Lib.numDigits_eq u (by omega) hu; split at this <;> omega

theorem Show_any (a : Int) (u : Nat) (p q : Bool) (w : World) (h0 : 0 ≤ a) (h1 : a ≤ 18446744073709551615) (hu : a / 4 = u) (hp : decide (a % 2 = 1) = p) (hq : decide (a / 2 % 2 = 1) = q) (htab : Tab w) :
    Calls Tryd.prog 23 #[.int .u64 a] w fun e w' => e = .returned (.string ⟨(showL u p q).toArray⟩) ∧ Later w w' := by
  have HP := Lib.hid hp
  have HQ := Lib.hid hq
  clear hp hq
  have hu64 : u < 18446744073709551616 := by omega
  have hlen := digits_le u hu64
  cases p <;> cases q
  all_goals
    go_enter Tryd.func23, Tryd.ntmps23
    go_wp2_with (first | (go_at_call 16; refine (Version_any _ _ h0 h1).mono ?_; rintro e w' ⟨rfl, hb⟩) | (go_at_call 41; refine (formatUint_any u hu64 _ (htab.later hb)).mono ?_; rintro e w' ⟨rfl, hb⟩) | (go_at_call 12; refine (Locked_is _ _ _ h0 h1 HP.out).mono ?_; rintro e w' ⟨rfl, hb⟩)| (go_at_call 13; refine (Dead_is _ _ _ h0 h1 HQ.out).mono ?_; rintro e w' ⟨rfl, hb⟩))
    go_ret
    refine ⟨congrArg (fun s => Ending.returned (Value.string s)) ?_, by repeat (first | exact Later.refl _ | assumption | refine Later.trans ?_ (by assumption))⟩
    apply ByteArray.ext
    simp [showL]
/-- what the loop of the reference's Show keeps -/
def Rem (u m : Nat) (l : List UInt8) : Prop := (l = [] ∧ m = u) ∨ (l ≠ [] ∧ Lib.decDigits u = (if m = 0 then [] else Lib.decDigits m) ++ l)

theorem Rem.step {u m : Nat} {l : List UInt8} (h : Rem u m l) (hm : 0 < m ∨ l = []) : Rem u (m / 10) (UInt8.ofNat (48 + m % 10) :: l) := by
  right
  refine ⟨by simp, ?_⟩
  have e : Lib.decDigits m = (if m / 10 = 0 then [] else Lib.decDigits (m / 10)) ++ [UInt8.ofNat (48 + m % 10)] := by
    rw [Lib.decDigits]
    by_cases h10 : m < 10
    · rw [dif_pos h10, if_pos (by omega), Nat.mod_eq_of_lt h10]; rfl
    · rw [dif_neg h10, if_neg (by omega)]
  rcases h with ⟨rfl, rfl⟩ | ⟨hl, hd⟩
  · rw [e]
  · have hm0 : m ≠ 0 := by rcases hm with h | h; omega; exact absurd h hl
    rw [hd, if_neg hm0, e]
    simp
theorem Rem.len {u m : Nat} {l : List UInt8} (h : Rem u m l) : l.length ≤ (Lib.decDigits u).length := by
  rcases h with ⟨rfl, _⟩ | ⟨_, hd⟩
  · simp
  · rw [hd]; simp
theorem Rem.done {u : Nat} {l : List UInt8} (h : Rem u 0 l) (hl : l ≠ []) : l = Lib.decDigits u := by
  rcases h with ⟨rfl, _⟩ | ⟨_, hd⟩
  · exact absurd rfl hl
  · simpa using hd.symm

theorem conv1 (wr : World) (x : Int) (h0 : 0 ≤ x) (h1 : x < 256) : (convert 50 9 (.slice (some ⟨wr.heap.size, 0, none⟩) 1 1)).run Tryd.prog (wr.alloc (.cells #[.int .u8 x] 5)) = .ok (.string ⟨#[UInt8.ofNat x.toNat]⟩) (wr.alloc (.cells #[.int .u8 x] 5)) := by
  have h := run_convert_bytes_back (P := Tryd.prog) (wr.alloc (.cells #[.int .u8 x] 5)) 50 9 5 ⟨wr.heap.size, 0, none⟩ 1 [UInt8.ofNat x.toNat] Tryd.underlying50 Tryd.underlying5 Tryd.underlying9 (fun j hj => by
    have hj0 : j = 0 := by simpa using hj
    subst hj0
    rw [Lib.add_plain, World.cell?_alloc_new]
    have e : ((UInt8.ofNat x.toNat).toNat : Int) = x := by simp; omega
    simp only [List.getElem_cons_zero]
    rw [e]
    rfl)
  exact h

set_option maxHeartbeats 400000 in
theorem refShow_any (a : Int) (u : Nat) (p q : Bool) (w : World) (h0 : 0 ≤ a) (h1 : a ≤ 18446744073709551615) (hu : a / 4 = u) (hp : decide (a % 2 = 1) = p) (hq : decide (a / 2 % 2 = 1) = q) :
    Calls Tryd.prog 21 #[.int .u64 a] w fun e w' => e = .returned (.string ⟨(showL u p q).toArray⟩) ∧ Later w w' := by
  have HP := Lib.hid hp
  have HQ := Lib.hid hq
  have hu64 : u < 18446744073709551616 := by omega
  have hlen := digits_le u hu64
  clear hp hq
  go_enter Tryd.func21, Tryd.ntmps21
  go_wp2_with (first | (go_at_call 35; refine (Of_any _ _ _ _ h0 h1 HP.out HQ.out).mono ?_; rintro e w' ⟨rfl, hb⟩))
  go_loopw [4, 5] (fun o n wr => ∃ (m : Nat) (l : List UInt8), n = .int .u64 m ∧ o = .string ⟨l.toArray⟩ ∧ m ≤ u ∧ Hid (Rem u m l) ∧ l.length ≤ 20 ∧ Later (w'.alloc (Obj.cells #[Value.int IntKind.u64 ↑u, Value.bool p, Value.bool q] 47)) wr) (fun o n _ => match o, n with | .string s, .int _ m => m.toNat + (if s.size = 0 then 1 else 0) | _, _ => 0)
  case atStart => exact ⟨u, [], rfl, rfl, Nat.le_refl _, .inl ⟨rfl, rfl⟩, by simp, Later.refl _⟩
  case round =>
    obtain ⟨m, l, rfl, rfl, hmu, HR, hl, hlw⟩ := hrel
    obtain ⟨rc, _, rz⟩ := hlw.reads
    have hc1 : wr.cell? ⟨w'.heap.size, 1, none⟩ = some (.bool p) := by rw [rc _ _ (by simp)]; simp
    have hc2 : wr.cell? ⟨w'.heap.size, 2, none⟩ = some (.bool q) := by rw [rc _ _ (by simp)]; simp
    clear rc
    have hll : l.length ≤ 20 := hl
    by_cases hm : 0 < m
    · have hcv := conv1 wr (48 + (m : Int) % 10) (by omega) (by omega)
      have HR2 := Lib.hid (HR.out.step (.inl hm))
      have hdn := HR2.out.len
      go_wp2
      go_roundw
      case rel =>
        refine ⟨m / 10, UInt8.ofNat (48 + m % 10) :: l, by go_num, ?_, by omega, HR2.out, by simp only [List.length_cons] at hdn ⊢; omega, ?_⟩
        · refine congrArg Value.string ?_
          apply ByteArray.ext
          simp
        · exact hlw.alloc _
      case measure => simp [ByteArray.size]; omega
    · obtain rfl : m = 0 := by omega
      clear hm
      cases l with
      | nil =>
        have hcv := conv1 wr 48 (by omega) (by omega)
        have HR2 := Lib.hid (HR.out.step (.inr rfl))
        go_wp2
        go_roundw
        case rel =>
          refine ⟨0, [48], rfl, ?_, by omega, HR2.out, by simp, ?_⟩
          · refine congrArg Value.string ?_
            apply ByteArray.ext
            simp
          · exact hlw.alloc _
        case measure => simp [ByteArray.size]
      | cons x l =>
        have hl2 : l.length ≤ 19 := by simp only [List.length_cons] at hll; omega
        have HD := Lib.hid (HR.out.done (by simp))
        cases p <;> cases q
        all_goals
          go_wp2
          go_ret
          refine ⟨congrArg (fun s => Ending.returned (Value.string s)) ?_, Later.trans ((Later.trans hb ((Later.refl _).alloc _))) hlw⟩
          apply ByteArray.ext
          simp [showL, ← HD.out]
end Go.Proofs.YtllcppdgamagoaaDoor
