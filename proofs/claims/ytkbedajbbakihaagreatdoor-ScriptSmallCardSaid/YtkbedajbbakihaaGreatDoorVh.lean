/-
 Texts of this proof, put together (Lz): each part's first words say what it holds. Conditions: as each part says.
-/
import Derived.Test.YtkbedajbbakihaaGreatDoorVc
import Derived.Test.YtkbedajbbakihaaGreatDoorVg
import Derived.Test.YtkbedajbbakihaaGreatDoorYo
/-
 ScriptSmall, walked. Conditions: the listed variables read as laid.
-/
namespace Go.Proofs.YtkbedajbbakihaaGreatDoor
open Go.RowKit Go.Sort Go.Lib
set_option linter.unusedSimpArgs false
set_option linter.unusedVariables false

theorem conv1 (W : World) (Z k : Nat) (hk : k < 256) (hZ : W.heap[Z]? = some (.cells #[.int .u8 (k : Int)] 5 (0, 0))) : (convert 22 9 (.slice (some ⟨Z, 0, none⟩) 1 1)).run Tryz.prog W = .ok (.string ⟨#[UInt8.ofNat k]⟩) W := by
 refine run_convert_bytes_back (P := Tryz.prog) W 22 9 5 ⟨Z, 0, none⟩ 1 [UInt8.ofNat k] Tryz.underlying22 Tryz.underlying5 Tryz.underlying9 (fun j hj => ?_)
 obtain rfl : j = 0 := by simpa using hj
 rw [Addr.add_lit, Lib.cell_of_heap hZ]
 simp
 omega
theorem conv2 (W : World) (Z k m : Nat) (hk : k < 256) (hm : m < 256) (hZ : W.heap[Z]? = some (.cells #[.int .u8 (k : Int), .int .u8 (m : Int)] 5 (0, 0))) : (convert 22 9 (.slice (some ⟨Z, 0, none⟩) 2 2)).run Tryz.prog W = .ok (.string ⟨#[UInt8.ofNat k, UInt8.ofNat m]⟩) W := by
 refine run_convert_bytes_back (P := Tryz.prog) W 22 9 5 ⟨Z, 0, none⟩ 2 [UInt8.ofNat k, UInt8.ofNat m] Tryz.underlying22 Tryz.underlying5 Tryz.underlying9 (fun j hj => ?_)
 have h2 : j = 0 ∨ j = 1 := by simp at hj; omega
 rcases h2 with rfl | rfl
 ·rw [Addr.add_lit, Lib.cell_of_heap hZ]
  simp
  omega
 ·rw [Addr.add_lit, Lib.cell_of_heap hZ]
  simp
  omega
/-- the word of a string, and the string of the word, the program's and the reference's -/
theorem word_both (s : ByteArray) (hs : s.size ≤ 1000000) : ∃ X : ByteArray, (∀ W, Calls Tryz.prog 11 #[.string s] W (Ret (.string X) W)) ∧ (∀ W, Calls Tryz.prog 12 #[.string X] W (Ret (.tuple #[.string s, .int .i64 0]) W)) ∧ (∀ W, Calls Tryz.prog 13 #[.string s] W (Ret (.string X) W)) := by
 have hX : (word s.data.toList).length ≤ 100000000 := by
  have h1 := word_len s.data.toList
  have h2 := Lib.size_eq s
  omega
 refine ⟨⟨(word s.data.toList).toArray⟩, fun W => Word_is s (by omega) W, fun W => ?_, fun W => refWord_is s (by omega) W⟩
 refine (Unword_is _ (by rw [size_mk]; exact hX) W).mono fun e w' ⟨h1, h2⟩ => ⟨?_, h2⟩
 rw [show (⟨(word s.data.toList).toArray⟩ : ByteArray).data.toList = word s.data.toList from rfl, unword_word] at h1
 have : (⟨s.data.toList.toArray⟩ : ByteArray) = s := by cases s; simp
 rw [h1, this]
theorem unword_both (s : ByteArray) (hs : s.size ≤ 1000000) : ∃ (X : ByteArray) (b : Bool), (∀ W, Calls Tryz.prog 12 #[.string s] W (Ret (.tuple #[.string X, .int .i64 (if b then 0 else 7)]) W)) ∧ (∀ W, Calls Tryz.prog 14 #[.string s] W (Ret (.tuple #[.string X, .bool b]) W)) := by
 cases hr : runword s.data.toList with
 | none =>
  refine ⟨⟨#[]⟩, false, fun W => (Unword_is s (by omega) W).mono fun e w' h => ?_, fun W => (refUnword_is s (by omega) W).mono fun e w' h => ?_⟩
  ·rw [unword_eq, hr] at h; exact h
  ·rw [hr] at h; exact h
 | some t =>
  refine ⟨⟨t.toArray⟩, true, fun W => (Unword_is s (by omega) W).mono fun e w' h => ?_, fun W => (refUnword_is s (by omega) W).mono fun e w' h => ?_⟩
  ·rw [unword_eq, hr] at h; exact h
  ·rw [hr] at h; exact h
theorem rrE_flat {r : Option Req} {e : Ending} (h : RREnd r e) : e = .returned (.tuple #[.agg (reqA (r.getD req0)), .int .i64 (if r.isSome then 0 else 7)]) := by cases r <;> exact h
theorem req0_wfZ : req0.wf := ⟨by decide, by decide, by decide, by decide, by decide, by decide, by decide, by decide, by decide, by decide, by decide, by decide⟩
/-- a text read as a request, the program's and the reference's -/
structure ReqB (S : ByteArray) (D : Array Value) (x : Int) : Prop where
 prog : ∀ W, Laid W → Calls Tryz.prog 15 #[.string S] W (Ret (.tuple #[.agg D, .int .i64 x]) W)
 ref : ∀ W, Calls Tryz.prog 16 #[.string S] W (Ret (.tuple #[.agg D, .int .i64 x]) W)
 ne : ∀ W : World, (binOp .neq 39 (.agg D) (.agg D)).run Tryz.prog W = .ok (.bool false) W
 info : (Tryz.prog.info? 39).map (·.size) = some D.size
 size : (reqA req0).size = D.size
 one : D.all (·.oneCell') = true
 len : (Tryz.prog.info? 39).map (·.size) = some D.toList.length
theorem req_both (S : ByteArray) (hs : S.size ≤ 1000000) : ∃ D x, ReqB S D x := by
 have hl : S.data.toList.length = S.size := (Lib.size_eq S).symm
 have hss : (⟨S.data.toList.toArray⟩ : ByteArray) = S := by cases S; simp
 have hwf : ((readR (spl S.data.toList)).getD req0).wf := by
  cases hr : readR (spl S.data.toList) with
  | none => exact req0_wfZ
  | some r => exact ((read_fit hr).fit (by have := spl_bounds S.data.toList; omega)).wf
 refine ⟨reqA ((readR (spl S.data.toList)).getD req0), if (readR (spl S.data.toList)).isSome then 0 else 7, ?_, ?_, ?_, reqA_info, rfl, reqA_one _, by rw [Array.length_toList]; exact reqA_info⟩
 ·intro W hW
  have h := (ReadRequest_is S.data.toList (by omega) W hW).mono fun e w' h => show Ret _ W e w' from And.intro (rrE_flat h.1) h.2
  rwa [hss] at h
 ·exact fun W => (refReadRequest_is S (by omega) W).mono fun e w' h => And.intro (rrE_flat h.1) h.2
 ·intro W
  obtain ⟨b, hb, hbq⟩ := eq_req _ _ hwf hwf W
  rw [hbq.2 rfl] at hb
  exact hb
/-- a text read as a script, the program's and the reference's -/
theorem scr_both (S : ByteArray) : ∃ (st : Scr) (n c : Int), (∀ W, Laid W → Calls Tryz.prog 17 #[.string S] W (PFl st n c W)) ∧ (∀ W, Calls Tryz.prog 18 #[.string S] W (PFl st n c W)) ∧
  (∀ ev pv eu pu W, EntsAt W ev st.1 → NumsAt W pv st.2 → EntsAt W eu st.1 → NumsAt W pu st.2 → Calls Tryz.prog 19 #[.agg #[ev, pv], .agg #[eu, pu]] W fun e w' => e = .returned (.bool true) ∧ Later W w') := by
 have hss : (⟨S.data.toList.toArray⟩ : ByteArray) = S := by cases S; simp
 obtain ⟨hn, hm, hwf⟩ := pS_small S.data.toList
 refine ⟨pS (parseP S.data.toList), pNo (parseP S.data.toList), pCo (parseP S.data.toList), fun W hW => ?_, fun W => refParse_fl S W, fun ev pv eu pu W a1 a2 a3 a4 => SameScript_is ev pv eu pu _ (by omega) (by omega) hwf W a1 a2 a3 a4⟩
 have h := Parse_fl S.data.toList W hW
 unfold strV at h
 rwa [hss] at h
def tx27 : Array Value := #[.string ⟨#[115, 99, 97, 110, 32, 49, 46, 49, 46, 114, 32, 97, 32, 57, 57, 57, 57, 57, 57, 57, 57, 57]⟩, .string ⟨#[115, 99, 97, 110, 32, 49, 46, 49, 46, 114, 32, 97, 32, 49, 48, 48, 48, 48, 48, 48, 48, 48, 48]⟩, .string ⟨#[115, 99, 97, 110, 32, 49, 46, 49, 46, 114, 32, 97, 32, 45, 49]⟩, .string ⟨#[115, 99, 97, 110, 32, 49, 46, 49, 46, 114, 32, 97, 32, 48, 49]⟩, .string ⟨#[99, 114, 101, 97, 116, 101, 32, 48, 32, 49, 56, 52, 52, 54, 55, 52, 52, 48, 55, 51, 55, 48, 57, 53, 53, 49, 54, 49, 53, 32, 48]⟩, .string ⟨#[99, 114, 101, 97, 116, 101, 32, 48, 32, 49, 56, 52, 52, 54, 55, 52, 52, 48, 55, 51, 55, 48, 57, 53, 53, 49, 54, 49, 54, 32, 48]⟩, .string ⟨#[99, 114, 101, 97, 116, 101, 32, 48, 32, 48, 32, 48, 48]⟩, .string ⟨#[99, 114, 101, 97, 116, 101, 32, 57, 57, 57, 57, 57, 57, 57, 57, 57, 32, 48, 32, 48]⟩, .string ⟨#[99, 114, 101, 97, 116, 101, 32, 49, 48, 48, 48, 48, 48, 48, 48, 48, 48, 32, 48, 32, 48]⟩, .string ⟨#[105, 115, 115, 117, 101, 32, 49, 32]⟩, .string ⟨#[105, 115, 115, 117, 101, 32, 49, 32, 114, 119, 115]⟩, .string ⟨#[105, 115, 115, 117, 101, 32, 49, 32, 115, 114]⟩, .string ⟨#[105, 115, 115, 117, 101, 32, 49, 32, 45]⟩, .string ⟨#[103, 101, 116, 32, 49, 54, 46, 52, 50, 57, 52, 57, 54, 55, 50, 57, 53, 46, 114, 32, 45]⟩, .string ⟨#[103, 101, 116, 32, 49, 55, 46, 49, 46, 114, 32, 45]⟩, .string ⟨#[103, 101, 116, 32, 49, 46, 48, 46, 114, 32, 45]⟩, .string ⟨#[103, 101, 116, 32, 49, 46, 49, 46, 32, 45]⟩, .string ⟨#[]⟩, .string ⟨#[32]⟩, .string ⟨#[103, 101, 116]⟩, .string ⟨#[116, 101, 108, 108, 32, 49, 46, 49, 46, 114, 32]⟩, .string ⟨#[32, 116, 101, 108, 108, 32, 49, 46, 49, 46, 114]⟩, .string ⟨#[116, 101, 108, 108, 32, 32, 49, 46, 49, 46, 114]⟩, .string ⟨#[84, 101, 108, 108, 32, 49, 46, 49, 46, 114]⟩, .string ⟨#[112, 117, 116, 32, 49, 46, 49, 46, 119, 32, 45, 32, 45, 32, 45]⟩, .string ⟨#[115, 119, 97, 112, 32, 49, 46, 49, 46, 119, 32, 45, 32, 45]⟩, .string ⟨#[114, 101, 118, 111, 107, 101, 32, 49, 32, 49]⟩]
def tx15 : Array Value := #[.string ⟨#[112, 105, 99, 107, 115, 32, 57, 50, 50, 51, 51, 55, 50, 48, 51, 54, 56, 53, 52, 55, 55, 53, 56, 48, 55, 10]⟩, .string ⟨#[112, 105, 99, 107, 115, 32, 57, 50, 50, 51, 51, 55, 50, 48, 51, 54, 56, 53, 52, 55, 55, 53, 56, 48, 56, 10]⟩, .string ⟨#[112, 105, 99, 107, 115, 32, 45, 57, 50, 50, 51, 51, 55, 50, 48, 51, 54, 56, 53, 52, 55, 55, 53, 56, 48, 56, 10]⟩, .string ⟨#[112, 105, 99, 107, 115, 32, 45, 57, 50, 50, 51, 51, 55, 50, 48, 51, 54, 56, 53, 52, 55, 55, 53, 56, 48, 57, 10]⟩, .string ⟨#[112, 105, 99, 107, 115, 32, 45, 48, 10]⟩, .string ⟨#[112, 105, 99, 107, 115, 32, 48, 48, 10]⟩, .string ⟨#[112, 105, 99, 107, 115, 32, 43, 49, 10]⟩, .string ⟨#[112, 105, 99, 107, 115, 10]⟩, .string ⟨#[112, 105, 99, 107, 115, 32, 10]⟩, .string ⟨#[112, 105, 99, 107, 115, 32, 49, 10, 10]⟩, .string ⟨#[112, 105, 99, 107, 115, 32, 49]⟩, .string ⟨#[10]⟩, .string ⟨#[57, 57, 57, 57, 57, 57, 57, 57, 57, 32, 114, 101, 109, 111, 118, 101, 32, 49, 10]⟩, .string ⟨#[49, 48, 48, 48, 48, 48, 48, 48, 48, 48, 32, 114, 101, 109, 111, 118, 101, 32, 49, 10]⟩, .string ⟨#[48, 32, 112, 105, 99, 107, 115, 32, 49, 10]⟩]
theorem texts27 : ∀ j, j < 27 → ∃ S : ByteArray, S.size ≤ 1000000 ∧ tx27[j]? = some (.string S) := by
 intro j hj
 have h : ∀ j, j < 27 → ∃ l : List UInt8, l.length ≤ 1000 ∧ tx27[j]? = some (.string ⟨l.toArray⟩) := by
  intro j hj
  match j, hj with
  | 0, _ => exact ⟨[115, 99, 97, 110, 32, 49, 46, 49, 46, 114, 32, 97, 32, 57, 57, 57, 57, 57, 57, 57, 57, 57], by decide, rfl⟩
  | 1, _ => exact ⟨[115, 99, 97, 110, 32, 49, 46, 49, 46, 114, 32, 97, 32, 49, 48, 48, 48, 48, 48, 48, 48, 48, 48], by decide, rfl⟩
  | 2, _ => exact ⟨[115, 99, 97, 110, 32, 49, 46, 49, 46, 114, 32, 97, 32, 45, 49], by decide, rfl⟩
  | 3, _ => exact ⟨[115, 99, 97, 110, 32, 49, 46, 49, 46, 114, 32, 97, 32, 48, 49], by decide, rfl⟩
  | 4, _ => exact ⟨[99, 114, 101, 97, 116, 101, 32, 48, 32, 49, 56, 52, 52, 54, 55, 52, 52, 48, 55, 51, 55, 48, 57, 53, 53, 49, 54, 49, 53, 32, 48], by decide, rfl⟩
  | 5, _ => exact ⟨[99, 114, 101, 97, 116, 101, 32, 48, 32, 49, 56, 52, 52, 54, 55, 52, 52, 48, 55, 51, 55, 48, 57, 53, 53, 49, 54, 49, 54, 32, 48], by decide, rfl⟩
  | 6, _ => exact ⟨[99, 114, 101, 97, 116, 101, 32, 48, 32, 48, 32, 48, 48], by decide, rfl⟩
  | 7, _ => exact ⟨[99, 114, 101, 97, 116, 101, 32, 57, 57, 57, 57, 57, 57, 57, 57, 57, 32, 48, 32, 48], by decide, rfl⟩
  | 8, _ => exact ⟨[99, 114, 101, 97, 116, 101, 32, 49, 48, 48, 48, 48, 48, 48, 48, 48, 48, 32, 48, 32, 48], by decide, rfl⟩
  | 9, _ => exact ⟨[105, 115, 115, 117, 101, 32, 49, 32], by decide, rfl⟩
  | 10, _ => exact ⟨[105, 115, 115, 117, 101, 32, 49, 32, 114, 119, 115], by decide, rfl⟩
  | 11, _ => exact ⟨[105, 115, 115, 117, 101, 32, 49, 32, 115, 114], by decide, rfl⟩
  | 12, _ => exact ⟨[105, 115, 115, 117, 101, 32, 49, 32, 45], by decide, rfl⟩
  | 13, _ => exact ⟨[103, 101, 116, 32, 49, 54, 46, 52, 50, 57, 52, 57, 54, 55, 50, 57, 53, 46, 114, 32, 45], by decide, rfl⟩
  | 14, _ => exact ⟨[103, 101, 116, 32, 49, 55, 46, 49, 46, 114, 32, 45], by decide, rfl⟩
  | 15, _ => exact ⟨[103, 101, 116, 32, 49, 46, 48, 46, 114, 32, 45], by decide, rfl⟩
  | 16, _ => exact ⟨[103, 101, 116, 32, 49, 46, 49, 46, 32, 45], by decide, rfl⟩
  | 17, _ => exact ⟨[], by decide, rfl⟩
  | 18, _ => exact ⟨[32], by decide, rfl⟩
  | 19, _ => exact ⟨[103, 101, 116], by decide, rfl⟩
  | 20, _ => exact ⟨[116, 101, 108, 108, 32, 49, 46, 49, 46, 114, 32], by decide, rfl⟩
  | 21, _ => exact ⟨[32, 116, 101, 108, 108, 32, 49, 46, 49, 46, 114], by decide, rfl⟩
  | 22, _ => exact ⟨[116, 101, 108, 108, 32, 32, 49, 46, 49, 46, 114], by decide, rfl⟩
  | 23, _ => exact ⟨[84, 101, 108, 108, 32, 49, 46, 49, 46, 114], by decide, rfl⟩
  | 24, _ => exact ⟨[112, 117, 116, 32, 49, 46, 49, 46, 119, 32, 45, 32, 45, 32, 45], by decide, rfl⟩
  | 25, _ => exact ⟨[115, 119, 97, 112, 32, 49, 46, 49, 46, 119, 32, 45, 32, 45], by decide, rfl⟩
  | 26, _ => exact ⟨[114, 101, 118, 111, 107, 101, 32, 49, 32, 49], by decide, rfl⟩
  | j + 27, h => exact absurd h (by omega)
 obtain ⟨l, h1, h2⟩ := h j hj
 exact ⟨_, by rw [size_mk]; omega, h2⟩
theorem texts15 : ∀ j, j < 15 → ∃ S : ByteArray, tx15[j]? = some (.string S) := by
 intro j hj
 match j, hj with
 | 0, _ => exact ⟨⟨#[112, 105, 99, 107, 115, 32, 57, 50, 50, 51, 51, 55, 50, 48, 51, 54, 56, 53, 52, 55, 55, 53, 56, 48, 55, 10]⟩, rfl⟩
 | 1, _ => exact ⟨⟨#[112, 105, 99, 107, 115, 32, 57, 50, 50, 51, 51, 55, 50, 48, 51, 54, 56, 53, 52, 55, 55, 53, 56, 48, 56, 10]⟩, rfl⟩
 | 2, _ => exact ⟨⟨#[112, 105, 99, 107, 115, 32, 45, 57, 50, 50, 51, 51, 55, 50, 48, 51, 54, 56, 53, 52, 55, 55, 53, 56, 48, 56, 10]⟩, rfl⟩
 | 3, _ => exact ⟨⟨#[112, 105, 99, 107, 115, 32, 45, 57, 50, 50, 51, 51, 55, 50, 48, 51, 54, 56, 53, 52, 55, 55, 53, 56, 48, 57, 10]⟩, rfl⟩
 | 4, _ => exact ⟨⟨#[112, 105, 99, 107, 115, 32, 45, 48, 10]⟩, rfl⟩
 | 5, _ => exact ⟨⟨#[112, 105, 99, 107, 115, 32, 48, 48, 10]⟩, rfl⟩
 | 6, _ => exact ⟨⟨#[112, 105, 99, 107, 115, 32, 43, 49, 10]⟩, rfl⟩
 | 7, _ => exact ⟨⟨#[112, 105, 99, 107, 115, 10]⟩, rfl⟩
 | 8, _ => exact ⟨⟨#[112, 105, 99, 107, 115, 32, 10]⟩, rfl⟩
 | 9, _ => exact ⟨⟨#[112, 105, 99, 107, 115, 32, 49, 10, 10]⟩, rfl⟩
 | 10, _ => exact ⟨⟨#[112, 105, 99, 107, 115, 32, 49]⟩, rfl⟩
 | 11, _ => exact ⟨⟨#[10]⟩, rfl⟩
 | 12, _ => exact ⟨⟨#[57, 57, 57, 57, 57, 57, 57, 57, 57, 32, 114, 101, 109, 111, 118, 101, 32, 49, 10]⟩, rfl⟩
 | 13, _ => exact ⟨⟨#[49, 48, 48, 48, 48, 48, 48, 48, 48, 48, 32, 114, 101, 109, 111, 118, 101, 32, 49, 10]⟩, rfl⟩
 | 14, _ => exact ⟨⟨#[48, 32, 112, 105, 99, 107, 115, 32, 49, 10]⟩, rfl⟩
 | j + 15, h => exact absurd h (by omega)
set_option maxRecDepth 100000 in
set_option maxHeartbeats 16000000 in
theorem ScriptSmall_is (w : World) (hw : Laid w) : Calls Tryz.prog 3 #[] w fun e w' => e = .returned (.bool true) ∧ Later w w' := by
 have HW := Lib.hid hw
 clear hw
 go_enter Tryz.func3, Tryz.ntmps3
 go_wp2_with fail
 go_loopw [1] (fun i wr => ∃ k : Nat, k ≤ 256 ∧ i = .int .i64 k ∧ Later w wr) (fun i _ => 256 - (RowKit.intOf i).toNat)
 case atStart => exact ⟨0, by omega, rfl, Later.refl w⟩
 case round =>
  obtain ⟨k, hk, rfl, hlw⟩ := hrel
  rename World => wk
  have HLK := Lib.hid hlw
  clear hlw
  by_cases hlt : k < 256
  ·have d0 : decide ((k : Int) < 256) = true := decide_eq_true (by omega)
   have hcv : IntKind.u8.wrap (k : Int) = (k : Int) := IntWalk.u8_in _ (by omega)
   have hc1 := conv1 (wk.alloc (.cells #[.int .u8 (k : Int)] 5)) wk.heap.size k hlt (MapKept.heap_alloc wk _).1
   obtain ⟨S, hS⟩ : ∃ S : ByteArray, ⟨#[UInt8.ofNat k]⟩ = S := ⟨_, rfl⟩
   rw [hS] at hc1
   obtain ⟨X, hx1, hx2, hx3⟩ := word_both S (by rw [← hS]; show 1 ≤ 1000000; omega)
   have H1 := Lib.hid hx1
   have H2 := Lib.hid hx2
   have H3 := Lib.hid hx3
   clear hS hx1 hx2 hx3
   go_wp2_with fail
   refine (H1.out _).mono ?_
   rintro y1 w1 ⟨rfl, hl1⟩
   have HL1 := Lib.hid ((HLK.out.alloc _).trans hl1)
   clear hl1 hc1
   go_wp2_with fail
   refine (H2.out _).mono ?_
   rintro y2 w2 ⟨rfl, hl2⟩
   have HL2 := Lib.hid (HL1.out.trans hl2)
   clear hl2 HL1
   go_wp2_with fail
   refine (H3.out _).mono ?_
   rintro y3 w3 ⟨rfl, hl3⟩
   have HL3 := Lib.hid (HL2.out.trans hl3)
   clear hl3 HL2
   go_wp2_with fail
   go_loopw [6] (fun i wr => ∃ m : Nat, m ≤ 256 ∧ i = .int .i64 m ∧ Later w wr) (fun i _ => 256 - (RowKit.intOf i).toNat)
   case atStart => exact ⟨0, by omega, rfl, HL3.out⟩
   case round =>
    obtain ⟨m, hm, rfl, hlw⟩ := hrel
    rename World => wm
    have HLM := Lib.hid hlw
    clear hlw
    by_cases hlt2 : m < 256
    ·have d2 : decide ((m : Int) < 256) = true := decide_eq_true (by omega)
     have hcm : IntKind.u8.wrap (m : Int) = (m : Int) := IntWalk.u8_in _ (by omega)
     have hc2 := conv2 (wm.alloc (.cells #[.int .u8 (k : Int), .int .u8 (m : Int)] 5)) wm.heap.size k m hlt hlt2 (MapKept.heap_alloc wm _).1
     obtain ⟨S2, hS2⟩ : ∃ S : ByteArray, ⟨#[UInt8.ofNat k, UInt8.ofNat m]⟩ = S := ⟨_, rfl⟩
     rw [hS2] at hc2
     have hs2 : S2.size = 2 := by rw [← hS2]; rfl
     have bb : ¬ 9223372036854775807 < 1 + S2.size := by omega
     obtain ⟨X2, b, hx1, hx2⟩ := unword_both (⟨#[37]⟩ ++ S2) (by rw [ByteArray.size_append, hs2]; decide)
     obtain ⟨c, hc⟩ : ∃ c : Int, (if b then 0 else 7) = c := ⟨_, rfl⟩
     have hcb : (c == 0) = b := by rw [← hc]; cases b <;> rfl
     have hcb2 : decide (c = 0) = b := by rw [← hc]; cases b <;> rfl
     rw [hc] at hx1
     have H4 := Lib.hid hx1
     have H5 := Lib.hid hx2
     clear hS2 hx1 hx2 hc hs2
     go_wp2_with fail
     refine (H4.out _).mono ?_
     rintro y4 w4 ⟨rfl, hl4⟩
     have HL4 := Lib.hid ((HLM.out.alloc _).trans hl4)
     clear hl4 hc2
     go_wp2_with fail
     refine (H5.out _).mono ?_
     rintro y5 w5 ⟨rfl, hl5⟩
     have HL5 := Lib.hid (HL4.out.trans hl5)
     clear hl5 HL4
     go_wp2_with fail
     go_roundw
     case rel => exact ⟨m + 1, by omega, by go_num, HL5.out⟩
     case measure => simp [RowKit.intOf]; omega
    ·have d2 : decide ((m : Int) < 256) = false := decide_eq_false (by omega)
     go_wp2_with fail
     go_roundw
     case rel => exact ⟨k + 1, by omega, by go_num, HLM.out⟩
     case measure => simp [RowKit.intOf]; omega
  ·have d0 : decide ((k : Int) < 256) = false := decide_eq_false (by omega)
   go_wp2_with fail
   obtain ⟨T27, hT27⟩ : ∃ T : Array Value, tx27 = T := ⟨_, rfl⟩
   have HT27 := Lib.hid (show ∀ j, j < 27 → ∃ S : ByteArray, S.size ≤ 1000000 ∧ T27[j]? = some (.string S) by rw [← hT27]; exact texts27)
   obtain ⟨V, hV⟩ : ∃ V, wk.alloc (.cells tx27 9) = V := ⟨_, rfl⟩
   have hkV : V.heap[wk.heap.size]? = some (.cells T27 9 (0, 0)) := by rw [← hV, ← hT27]; exact (MapKept.heap_alloc wk _).1
   have HV := Lib.hid (And.intro (show Later w V by rw [← hV]; exact HLK.out.alloc _) hkV)
   have HVE := Lib.hid hV
   clear hT27 hV hkV
   go_loopw [86] (fun i wr => ∃ j : Nat, j ≤ 27 ∧ i = .int .i64 j ∧ Later V wr) (fun i _ => 27 - (RowKit.intOf i).toNat)
   case atStart => exact ⟨0, by omega, rfl, by rw [← HVE.out]; exact Later.refl _⟩
   case round =>
    obtain ⟨j, hj, rfl, hlw⟩ := hrel
    rename World => wj
    have HLJ := Lib.hid hlw
    clear hlw
    by_cases hlj : j < 27
    ·have d3 : decide ((j : Int) < 27) = true := decide_eq_true (by omega)
     obtain ⟨S, hS1, hS2⟩ := HT27.out j hlj
     have hc : wj.cell? ⟨wk.heap.size, j, none⟩ = some (.string S) := by
      rw [Lib.cell_of_heap ((HLJ.out.block _ (Array.getElem?_eq_some_iff.1 HV.out.2).1).trans HV.out.2)]
      exact hS2
     obtain ⟨D, x, hD⟩ := req_both S hS1
     have HD := Lib.hid hD
     clear hD hS1 hS2
     go_wp2_with fail
     refine (HD.out.prog wj (HW.out.later (HV.out.1.trans HLJ.out))).mono ?_
     rintro y3 w3 ⟨rfl, hl3⟩
     have HL3 := Lib.hid (HLJ.out.trans hl3)
     clear hl3 hc
     go_upto_region 21 with (refine wpList_store_rowTo rfl 39 (.tmp 14) (.tmp 93) rfl rfl w3.heap.size D rfl rfl 39 (reqA req0) (req_block w3 (reqA req0)) HD.out.info HD.out.size HD.out.one ?_)
     have hz3 : (w3.alloc (.cells #[.int .i64 0, .int .i64 0, .int .u32 0, .int .u8 0, .string ⟨#[]⟩, .string ⟨#[]⟩, .string ⟨#[]⟩, .int .i64 0, .int .i64 0, .int .u64 0, .int .u64 0, .int .u8 0] 39)).setRow w3.heap.size D = w3.alloc (.cells D 39) := World.setRow_alloc_new _ _ _ _
     rw [hz3]
     obtain ⟨B3, hB3⟩ : ∃ B, w3.heap.size = B := ⟨_, rfl⟩
     obtain ⟨V3, hV3⟩ : ∃ V, w3.alloc (.cells D 39) = V := ⟨_, rfl⟩
     have hlV : Later V V3 := by rw [← hV3]; exact HL3.out.alloc _
     have hkV : V3.heap[B3]? = some (.cells D 39 (0, 0)) := by rw [← hV3, ← hB3]; exact req_block w3 D
     have HV3 := Lib.hid (And.intro hlV hkV)
     rw [hB3, hV3]
     clear hz3 hB3 hV3 hlV hkV
     go_wp2_with fail
     refine (HD.out.ref V3).mono ?_
     rintro y4 w4 ⟨rfl, hl4⟩
     have HL4 := Lib.hid hl4
     clear hl4
     go_upto_region 22 with (refine wpList_store_rowTo rfl 39 (.tmp 16) (.tmp 98) rfl rfl w4.heap.size D rfl rfl 39 (reqA req0) (req_block w4 (reqA req0)) HD.out.info HD.out.size HD.out.one ?_)
     have hz4 : (w4.alloc (.cells #[.int .i64 0, .int .i64 0, .int .u32 0, .int .u8 0, .string ⟨#[]⟩, .string ⟨#[]⟩, .string ⟨#[]⟩, .int .i64 0, .int .i64 0, .int .u64 0, .int .u64 0, .int .u8 0] 39)).setRow w4.heap.size D = w4.alloc (.cells D 39) := World.setRow_alloc_new _ _ _ _
     rw [hz4]
     obtain ⟨B4, hB4⟩ : ∃ B, w4.heap.size = B := ⟨_, rfl⟩
     obtain ⟨V4, hV4⟩ : ∃ V, w4.alloc (.cells D 39) = V := ⟨_, rfl⟩
     have hlV : Later V3 V4 := by rw [← hV4]; exact HL4.out.alloc _
     have hkV : V4.heap[B4]? = some (.cells D 39 (0, 0)) := by rw [← hV4, ← hB4]; exact req_block w4 D
     have hk3 := (hlV.block _ (Array.getElem?_eq_some_iff.1 HV3.out.2).1).trans HV3.out.2
     have HV4 := Lib.hid (HV3.out.1.trans hlV)
     rw [hB4, hV4]
     have HG3 := Lib.hid (row_range hk3)
     have HG4 := Lib.hid (row_range hkV)
     have hnx : (x != x) = false := by simp
     have hne := HD.out.ne V4
     clear hz4 hB4 hV4 hlV hkV hk3
     go_wp2_with (first | (refine wpList_load_mid rfl 39 (.tmp 14) rfl B3 0 rfl D.toList _ HG3.out Tryz.underlying39 rfl HD.out.len ?_; rw [Array.toArray_toList]) | (refine wpList_load_mid rfl 39 (.tmp 16) rfl B4 0 rfl D.toList _ HG4.out Tryz.underlying39 rfl HD.out.len ?_; rw [Array.toArray_toList]) | (refine wpList_plain rfl (fun K1 hK1 => wp_neq39 (.tmp 100) (.tmp 101) 39 rfl D D rfl rfl false hne (hK1 _ _ ?_))))
     go_roundw
     case rel => exact ⟨j + 1, by omega, by go_num, HV4.out⟩
     case measure => simp [RowKit.intOf]; omega
    ·have d3 : decide ((j : Int) < 27) = false := decide_eq_false (by omega)
     go_wp2_with fail
     obtain ⟨T15, hT15⟩ : ∃ T : Array Value, tx15 = T := ⟨_, rfl⟩
     have HT15 := Lib.hid (show ∀ j, j < 15 → ∃ S : ByteArray, T15[j]? = some (.string S) by rw [← hT15]; exact texts15)
     obtain ⟨V9, hV9⟩ : ∃ V, wj.alloc (.cells tx15 9) = V := ⟨_, rfl⟩
     have hkV : V9.heap[wj.heap.size]? = some (.cells T15 9 (0, 0)) := by rw [← hV9, ← hT15]; exact (MapKept.heap_alloc wj _).1
     have HV9 := Lib.hid (And.intro (show Later w V9 by rw [← hV9]; exact (HV.out.1.trans HLJ.out).alloc _) hkV)
     have HVE9 := Lib.hid hV9
     clear hT15 hV9 hkV
     go_loopw [111] (fun i wr => ∃ q : Nat, q ≤ 15 ∧ i = .int .i64 q ∧ Later V9 wr) (fun i _ => 15 - (RowKit.intOf i).toNat)
     case atStart => exact ⟨0, by omega, rfl, by rw [← HVE9.out]; exact Later.refl _⟩
     case round =>
      obtain ⟨q, hq, rfl, hlw⟩ := hrel
      rename World => wq
      have HLQ := Lib.hid hlw
      clear hlw
      by_cases hlq : q < 15
      ·have d4 : decide ((q : Int) < 15) = true := decide_eq_true (by omega)
       obtain ⟨S, hS2⟩ := HT15.out q hlq
       have hc : wq.cell? ⟨wj.heap.size, q, none⟩ = some (.string S) := by
        rw [Lib.cell_of_heap ((HLQ.out.block _ (Array.getElem?_eq_some_iff.1 HV9.out.2).1).trans HV9.out.2)]
        exact hS2
       obtain ⟨st, x, c, hp1, hp2, hsm⟩ := scr_both S
       have H6 := Lib.hid hp1
       have H7 := Lib.hid hp2
       have H8 := Lib.hid hsm
       have nx : (x != x) = false := by simp
       have nc : (c != c) = false := by simp
       clear hp1 hp2 hsm hS2
       go_wp2_with fail
       refine (H6.out wq (HW.out.later (HV9.out.1.trans HLQ.out))).mono ?_
       rintro y1 w1 ⟨hl1, ao, ca, bo, cb, rfl, hE, hP⟩
       obtain ⟨n, hn⟩ : ∃ n, st.1.length = n := ⟨_, rfl⟩
       obtain ⟨m, hm⟩ : ∃ m, st.2.length = m := ⟨_, rfl⟩
       have HNM := Lib.hid (And.intro hn hm)
       rw [hn] at hE ⊢
       rw [hm] at hP ⊢
       have HL1 := Lib.hid (HLQ.out.trans hl1)
       have HEP := Lib.hid (And.intro hE hP)
       clear hl1 hE hP hn hm hc
       go_wp2_with fail
       obtain ⟨U1, hU1⟩ : ∃ V, w1.alloc (.cells #[.slice ao n ca, .slice bo m cb] 45) = V := ⟨_, rfl⟩
       have hlv : Later w1 U1 := by rw [← hU1]; exact (Later.refl w1).alloc _
       have hkv : U1.heap[w1.heap.size]? = some (.cells #[.slice ao n ca, .slice bo m cb] 45 (0, 0)) := by rw [← hU1]; exact (MapKept.heap_alloc w1 _).1
       rw [hU1]
       have HU1 := Lib.hid (And.intro hlv hkv)
       clear hU1 hlv hkv
       refine (H7.out U1).mono ?_
       rintro y2 w2 ⟨hl2, ap, cp, aq, cq, rfl, hE, hP⟩
       rw [HNM.out.1] at hE ⊢
       rw [HNM.out.2] at hP ⊢
       have HL2 := Lib.hid hl2
       have HEQ := Lib.hid (And.intro hE hP)
       clear hl2 hE hP
       go_upto_region 30 with fail
       obtain ⟨U2, hU2⟩ : ∃ V, w2.alloc (.cells #[.slice ap n cp, .slice aq m cq] 45) = V := ⟨_, rfl⟩
       have hlv : Later w2 U2 := by rw [← hU2]; exact (Later.refl w2).alloc _
       have hk2 : U2.heap[w2.heap.size]? = some (.cells #[.slice ap n cp, .slice aq m cq] 45 (0, 0)) := by rw [← hU2]; exact (MapKept.heap_alloc w2 _).1
       have hlt := HL2.out.trans hlv
       have hk1 := (hlt.block _ (Array.getElem?_eq_some_iff.1 HU1.out.2).1).trans HU1.out.2
       have c0 : U2.cell? ⟨w1.heap.size, 0, none⟩ = some (.slice ao n ca) := by rw [Lib.cell_of_heap hk1]; rfl
       have c1 : U2.cell? ⟨w1.heap.size, 1, none⟩ = some (.slice bo m cb) := by rw [Lib.cell_of_heap hk1]; rfl
       have c2 : U2.cell? ⟨w2.heap.size, 0, none⟩ = some (.slice ap n cp) := by rw [Lib.cell_of_heap hk2]; rfl
       have c3 : U2.cell? ⟨w2.heap.size, 1, none⟩ = some (.slice aq m cq) := by rw [Lib.cell_of_heap hk2]; rfl
       have HS := Lib.hid (H8.out (.slice ao n ca) (.slice bo m cb) (.slice ap n cp) (.slice aq m cq) U2 (by have h := HEP.out.1.later (HU1.out.1.trans hlt); exact h) (by have h := HEP.out.2.later (HU1.out.1.trans hlt); exact h) (HEQ.out.1.later hlv) (HEQ.out.2.later hlv))
       have HLV := Lib.hid (HL1.out.trans (HU1.out.1.trans hlt))
       rw [hU2]
       clear hU2 hlv hk2 hlt hk1
       go_wp2_with fail
       refine HS.out.mono ?_
       rintro y3 w3 ⟨rfl, hl3⟩
       have HL3 := Lib.hid (HLV.out.trans hl3)
       clear hl3 c0 c1 c2 c3
       go_wp2_with fail
       go_roundw
       case rel => exact ⟨q + 1, by omega, by go_num, HL3.out⟩
       case measure => simp [RowKit.intOf]; omega
      ·have d4 : decide ((q : Int) < 15) = false := decide_eq_false (by omega)
       go_wp2_with fail
       refine (limits_is wq (HW.out.later (HV9.out.1.trans HLQ.out))).mono ?_
       rintro y8 w8 ⟨rfl, hl8⟩
       have HL8 := Lib.hid ((HV9.out.1.trans HLQ.out).trans hl8)
       clear hl8
       go_wp2_with fail
       refine (awake_is w8 (HW.out.later HL8.out)).mono ?_
       rintro y9 w9 ⟨rfl, hl9⟩
       have HL9 := Lib.hid (HL8.out.trans hl9)
       clear hl9
       go_wp2_with fail
       go_ret
       exact ⟨rfl, HL9.out⟩
end Go.Proofs.YtkbedajbbakihaaGreatDoor
