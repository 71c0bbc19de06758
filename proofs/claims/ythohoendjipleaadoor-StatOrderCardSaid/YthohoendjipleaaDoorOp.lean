/-
  From the rows' lists and the arguments' readings to the walks' facts; and the row's last step where a call has made new blocks.
-/
import Derived.Test.YthohoendjipleaaDoorCards
import Derived.Test.YthohoendjipleaaDoorTie
import Derived.Test.YthohoendjipleaaDoorAw
import Derived.ProofKit
import Derived.OpenShut
import Derived.Deep.DeepHandedRow
import Derived.Deep.DeepWitnessRowRef
import Derived.Lib.LaidTab
import Derived.LaidMore
import Derived.Lay
import Derived.Stop.LaidErr
namespace Go.Proofs.YthohoendjipleaaDoor
open Go.RowKit Go.WideShapes Go.ChangeShapes

section
variable {H : Type} {enc : TypeId × Value → H} {P : Program}
theorem post_of_later {f : Func} {s : ChangeSpec} {apart fresh handsOn again : Bool} {W W' : World} {args : Array Value} {v : Value} {ds gs : List (DataW H)} {before pa pv : List MemPlace}
    (hW : DataW.Whole enc P f.params.toList s.vars apart W args.toList ds gs before)
    (hres : ∀ (b : Nat) (sp : Nat → Bool) (hd : Bool), DataW.TrodAll enc P W' b sp hd f.resultTypes.toList (v.resultList f.resultTypes.size) (s.fn H (ds ++ gs)).results [])
    (hargs : ∀ sp : Nat → Bool, (∀ p ∈ before, sp p.block = true) → DataW.TrodAll enc P W' 0 sp true f.params.toList args.toList (s.fn H (ds ++ gs)).args pa)
    (hvars : ∀ sp : Nat → Bool, (∀ p ∈ before, sp p.block = true) → DataW.TrodVars enc P W' sp s.vars (s.fn H (ds ++ gs)).vars pv)
    (hps : before = pa ++ pv) (hb : Later W W')
    (hok : ∀ (j : Nat) (t : TypeId) (r : Value), f.resultTypes[j]? = some t → (v.resultList f.resultTypes.size)[j]? = some r → Value.okWide P W' .any 0 t r) :
    s.post enc P f apart fresh handsOn again W args v W' := by
  have hlt : ∀ p ∈ before, p.block < W.heap.size := fun p hp => hW.lt p hp
  have hold : ∀ p ∈ before, (fun b => decide (b < W.heap.size)) p.block = true := fun p hp => by simpa using hlt p hp
  refine ⟨ds, gs, before, [], pa, pv, hW, hres _ _ _, hargs _ hold, hvars _ hold, World.keptBut_mono (fun p hp => ⟨hp, ?_⟩) (Below.frame hb (· ∈ before)), fun _ => ?_⟩
  · rw [hps, List.mem_append] at hp
    exact Or.inr hp
  · obtain ⟨_, _, _, _, _, hz, hn⟩ := hW
    refine ⟨hok, _, _, ([] ++ pa) ++ pv, ⟨[] ++ pa, pv, trodAll_append (hargs _ (fun _ _ => rfl)) (hres _ _ _), hvars _ (fun _ _ => rfl), rfl, ?_, ?_⟩, ?_⟩
    · intro b off hp
      have hin : MemPlace.cell b off ∈ before := by rw [hps]; simpa using hp
      rw [Below.frozen hb (hlt _ hin)]
      exact hz b off hin
    · intro ha
      have := hn ha
      rw [hps] at this
      simpa using this
    · intro p hp _
      rw [hps]
      simpa using hp
end

theorem gPow : Tryd.prog.globalNamed "internal/strconv.uint64pow10" = some 1 := by kernel_rfl
theorem gPowType : (Tryd.prog.globals[1]?).map (·.type) = some 131 := by kernel_rfl
theorem cells131 : Tryd.prog.cellsOf 131 = 20 := by kernel_rfl
theorem cells26 : Tryd.prog.cellsOf 26 = 1 := by kernel_rfl
theorem gDb : Tryd.prog.globalNamed "math/bits.deBruijn64tab" = some 3 := by kernel_rfl
theorem gDbType : (Tryd.prog.globals[3]?).map (·.type) = some 139 := by kernel_rfl
theorem cells139 : Tryd.prog.cellsOf 139 = 64 := by kernel_rfl
theorem cells5 : Tryd.prog.cellsOf 5 = 1 := by kernel_rfl
def dB64 : List Int := [0, 1, 56, 2, 57, 49, 28, 3, 61, 58, 42, 50, 38, 29, 17, 4, 62, 47, 59, 36, 45, 43, 51, 22, 53, 39, 33, 30, 24, 18, 12, 5, 63, 55, 48, 27, 60, 41, 37, 16, 46, 35, 44, 21, 52, 32, 23, 11, 54, 26, 40, 15, 34, 20, 31, 10, 25, 14, 19, 9, 13, 8, 7, 6]
set_option maxRecDepth 100000 in
/-- the tables, second and third on the lists -/
theorem env_of {x : String × DataW Unit} {r : List (String × DataW Unit)} {W : World} (h : laidMet Tryd.prog (x :: ("math/bits.deBruijn64tab", Rows.laid_math_bits_deBruijn64tab) :: ("internal/strconv.uint64pow10", Rows.laid_internal_strconv_uint64pow10) :: r) W) : Env W := by
  have h1 := Lib.tabIs_of_head gDb gDbType Tryd.underlying139 Tryd.underlying5 cells5 cells139 (show laidMet Tryd.prog (("math/bits.deBruijn64tab", Lib.tabData .u8 dB64) :: _) W from laidMet.tail h)
  have h2 := Lib.tabIs_of_head gPow gPowType Tryd.underlying131 Tryd.underlying26 cells26 cells131 (show laidMet Tryd.prog (("internal/strconv.uint64pow10", Lib.tabData .u64 Lib.pow10Tab) :: r) W from laidMet.tail (laidMet.tail h))
  exact ⟨h2, h1.cell gDb 15 (by decide)⟩

set_option maxRecDepth 100000
section
variable {H : Type} {enc : TypeId × Value → H} {W W' : World}
theorem trod_kept {t : TypeId} {v : Value} {d : DataW H} {ps : List MemPlace} (hr : Tryd.prog.readableRec t = true) (hrow : t < Tryd.prog.types.size) (h : DataW.Trod enc Tryd.prog W 0 (fun _ => true) true t v d ps) (hb : Later W W') (hlt : ∀ x ∈ ps, x.block < W.heap.size) {sp : Nat → Bool} (hsp : ∀ x ∈ ps, sp x.block = true) :
    DataW.Trod enc Tryd.prog W' 0 sp true t v d ps :=
  WideElems.Trod_stays (show laidOutB Tryd.prog = true by kernel_rfl) hr hrow h (fun x hx => Below.same hb (hlt x hx)) hsp
theorem u32_in {a : Int} (h : (Lit.int .u32 a).wf = true) : 0 ≤ a ∧ a ≤ 4294967295 := bounds_u32 h
theorem u8_in {a : Int} (h : (Lit.int .u8 a).wf = true) : 0 ≤ a ∧ a ≤ 255 := bounds_u8 h
theorem cells23 : Tryd.prog.cellsOf 23 = 10 := by kernel_rfl
theorem cells22 : Tryd.prog.cellsOf 22 = 1 := by kernel_rfl
theorem cells36 : Tryd.prog.cellsOf 36 = 1 := by kernel_rfl
theorem open_n10 {r : Reach} {b0 base : Nat} {sp : Nat → Bool} {hd : Bool} {v : Value} {d : DataW H} {ps : List MemPlace} (hval : Value.okWide Tryd.prog W r b0 23 v) (h : DataW.Trod enc Tryd.prog W base sp hd 23 v d ps) :
    ∃ n : Nat → Int, (∀ j, 0 ≤ n j ∧ n j ≤ 4294967295) ∧ v = .agg #[.int .u32 (n 0), .int .u32 (n 1), .int .u32 (n 2), .int .u32 (n 3), .int .u32 (n 4), .int .u32 (n 5), .int .u32 (n 6), .int .u32 (n 7), .int .u32 (n 8), .int .u32 (n 9)] := by
  simp only [Value.okWide, Tryd.underlying23] at hval
  obtain ⟨cs, rfl, hsz, _⟩ := hval
  rw [cells23] at hsz
  obtain ⟨fuel, hf⟩ := h
  obtain ⟨xs, m, _, _, _, hl, hel⟩ := DataW.trod_array Tryd.underlying23 hf
  have each : ∀ i, i < 10 → ∃ z : Int, cs[i]? = some (.int .u32 z) ∧ 0 ≤ z ∧ z ≤ 4294967295 := fun i hi => by
    have h1 := hel i hi
    have hx : ∃ y, xs[i]? = some y := ⟨_, List.getElem?_eq_getElem (by omega)⟩
    obtain ⟨y, hy⟩ := hx
    rw [cells22, Nat.mul_one, hy] at h1
    obtain ⟨z, hz, _, hw⟩ := DataW.trod_int Tryd.underlying22 h1
    refine ⟨z, ?_, u32_in hw⟩
    have h2 := congrArg (fun l => l[0]?) hz
    simp only [Value.cells, List.getElem?_cons_zero] at h2
    rw [List.getElem?_take, List.getElem?_drop] at h2
    simpa using h2
  have hn : ∃ n : Nat → Int, (∀ j, 0 ≤ n j ∧ n j ≤ 4294967295) ∧ ∀ i, i < 10 → cs[i]? = some (.int .u32 (n i)) := by
    refine ⟨fun i => if h : i < 10 then Classical.choose (each i h) else 0, fun j => ?_, fun i hi => ?_⟩
    · by_cases h : j < 10
      · simp only [h, dif_pos]; exact (Classical.choose_spec (each j h)).2
      · simp only [h]; simp
    · simp only [hi, dif_pos]; exact (Classical.choose_spec (each i hi)).1
  obtain ⟨n, hn1, hn2⟩ := hn
  refine ⟨n, hn1, ?_⟩
  congr 1
  apply Array.ext_getElem?
  intro i
  by_cases hi : i < 10
  · rw [hn2 i hi]
    have : i = 0 ∨ i = 1 ∨ i = 2 ∨ i = 3 ∨ i = 4 ∨ i = 5 ∨ i = 6 ∨ i = 7 ∨ i = 8 ∨ i = 9 := by omega
    rcases this with rfl | rfl | rfl | rfl | rfl | rfl | rfl | rfl | rfl | rfl <;> rfl
  · rw [Array.getElem?_eq_none (by omega), Array.getElem?_eq_none (by simp; omega)]
theorem open_deeds {r : Reach} {b0 base : Nat} {v : Value} {d : DataW H} {ps : List MemPlace} (hval : Value.okWide Tryd.prog W r b0 24 v) (h : DataW.Trod enc Tryd.prog W base (fun _ => true) true 24 v d ps) : ∃ l, Deeds W v l := by
  obtain ⟨a0, len, cap, rfl⟩ := okWide_slice Tryd.underlying24 hval
  obtain ⟨fuel, hf⟩ := h
  rcases open_ints Tryd.underlying24 Tryd.underlying36 cells36 hf with ⟨hcs, _⟩ | ⟨a, len', cap', zs, hcs, _, hl, hm, hz, _, hcell, _⟩
  · simp [Value.cells] at hcs
    obtain ⟨rfl, rfl, rfl⟩ := hcs
    exact ⟨[], .inl ⟨rfl, rfl⟩⟩
  · simp [Value.cells] at hcs
    obtain ⟨rfl, rfl, rfl⟩ := hcs
    simp only [if_true] at hz
    by_cases h0 : len = 0
    · subst h0
      exact ⟨[], .inr (.inl ⟨a, cap, rfl, rfl⟩)⟩
    · obtain ⟨b, off, rfl, hc⟩ := ints_at hcell (by omega)
      have hlt : b < W.heap.size := World.block_lt_of_cell? W _ (hc 0 (by omega))
      refine ⟨zs.take len, .inr (.inr ⟨b, off, cap, ?_, hlt, ?_, ?_, fun i hi => ?_⟩)⟩
      · rw [List.length_take, Nat.min_eq_left (by omega)]
      · rw [List.length_take]; omega
      · rw [List.length_take]; unfold maxLen at hm; omega
      · rw [List.length_take] at hi
        rw [hc i (by omega)]
        simp [show i < len by omega]
end
end Go.Proofs.YthohoendjipleaaDoor
