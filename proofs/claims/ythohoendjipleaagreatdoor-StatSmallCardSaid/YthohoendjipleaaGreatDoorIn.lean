/-
  A region that draws its order, walked by an invariant: what each operation finds done, and what it leaves. Conditions: none (a law of the model, for every program).
-/
import Derived.Orders
namespace Go.Proofs.YthohoendjipleaaGreatDoor

def updD (D : Nat → Bool) (i : Nat) : Nat → Bool := fun j => if j = i then true else D j
theorem updD_same (D : Nat → Bool) (i : Nat) : updD D i i = true := by simp [updD]
section
variable {P : Program} {ops : Array Oper} {Q : Exit → Act → World → Prop} {md : Region.Mode}
/-- each operation waits only for earlier ones -/
def lowB (md : Region.Mode) (ops : Array Oper) : Bool :=
  (List.range ops.size).all fun i => ((ops[i]?).map fun o => o.after.all fun e => !Region.binds md e || decide (e.on < i)).getD true
theorem lowB_at (h : lowB md ops = true) {i : Nat} {o : Oper} (ho : ops[i]? = some o) : ∀ e ∈ o.after, Region.binds md e = true → e.on < i := by
  intro e he hb
  have hi : i < ops.size := (Array.getElem?_eq_some_iff.1 ho).1
  have h1 := List.all_eq_true.1 h i (List.mem_range.2 hi)
  rw [ho] at h1
  simp only [Option.map_some, Option.getD_some, Array.all_eq_true_iff_forall_mem] at h1
  have h2 := h1 e he
  simpa [hb] using h2
theorem getD_updD {listed : Array Bool} {i : Nat} (hi : i < listed.size) : (fun j => (listed.setIfInBounds i true).getD j false) = updD (fun j => listed.getD j false) i := by
  funext j
  unfold updD
  by_cases h : j = i
  · subst h
    rw [if_pos rfl, Array.getD_eq_getD_getElem?, Array.getElem?_setIfInBounds_self_of_lt hi]
    rfl
  · rw [if_neg h]
    exact getD_set_ne false (fun e => h e.symm)
theorem wpAny_inv (I : (Nat → Bool) → Act → World → Prop) (hlow : lowB md ops = true)
    (hstep : ∀ i D a w, i < ops.size → D i = false → (∀ o, ops[i]? = some o → ∀ e ∈ o.after, Region.binds md e = true → D e.on = true) → I D a w → wpOp P ops Q i (fun a' w' => I (updD D i) a' w') a w)
    (hend : ∀ D a w, (∀ i, i < ops.size → D i = true) → I D a w → Q .normal a w) :
    ∀ (fuel : Nat) (listed : Array Bool) (a : Act) (w : World), listed.size = ops.size → listed.toList.count false ≤ fuel → I (fun i => listed.getD i false) a w → wpAny P md ops Q fuel listed a w := by
  have hall : ∀ listed : Array Bool, listed.size = ops.size → Region.ready md ops listed = [] → ∀ i, i < ops.size → listed.getD i false = true := by
    intro listed hs hr i
    induction i using Nat.strongRecOn with
    | ind i ih =>
      intro hi
      cases hb : listed.getD i false with
      | true => rfl
      | false =>
        exfalso
        have hmem : i ∈ Region.ready md ops listed := by
          refine mem_ready.2 ⟨?_, ops[i], Array.getElem?_eq_getElem hi, fun e he hbe => ?_⟩
          · rw [Array.getD_eq_getD_getElem?, Array.getElem?_eq_getElem (by omega)] at hb ⊢
            exact hb
          · have hlt := lowB_at hlow (Array.getElem?_eq_getElem hi) e he hbe
            exact ih e.on hlt (by omega)
        rw [hr] at hmem
        cases hmem
  intro fuel
  induction fuel with
  | zero =>
    intro listed a w hs hc hI
    have htrue : ∀ i, i < ops.size → listed.getD i false = true := by
      intro i hi
      have h0 : false ∉ listed.toList := List.count_eq_zero.1 (by omega)
      rw [Array.getD_eq_getD_getElem?, Array.getElem?_eq_getElem (by omega), Option.getD_some]
      cases hb : listed[i] with
      | true => rfl
      | false => exact absurd (by rw [← hb]; simp) h0
    refine ⟨?_, hend _ a w htrue hI⟩
    apply List.eq_nil_iff_forall_not_mem.2
    intro i hi
    obtain ⟨h1, o, ho, _⟩ := mem_ready.1 hi
    have hlt : i < ops.size := (Array.getElem?_eq_some_iff.1 ho).1
    have h2 := htrue i hlt
    rw [Array.getD_eq_getD_getElem?, Array.getElem?_eq_getElem (by omega)] at h1 h2
    simp only [Option.getD_some] at h1 h2
    rw [h1] at h2
    cases h2
  | succ fuel ih =>
    intro listed a w hs hc hI
    refine ⟨fun hr => hend _ a w (hall listed hs hr) hI, fun i hi => ?_⟩
    obtain ⟨h1, o, ho, hd⟩ := mem_ready.1 hi
    have hlt : i < ops.size := (Array.getElem?_eq_some_iff.1 ho).1
    have hlt' : i < listed.size := by omega
    have hf : listed.getD i false = false := by
      rw [Array.getD_eq_getD_getElem?, Array.getElem?_eq_getElem hlt'] at h1 ⊢
      exact h1
    refine wpOp_mono (fun a' w' h => ?_) (hstep i _ a w hlt hf (fun o' ho' e he hb => by rw [ho] at ho'; injection ho' with ho'; subst ho'; exact hd e he hb) hI)
    refine ih _ a' w' (by simpa using hs) ?_ ?_
    · rw [Array.toList_setIfInBounds, List.count_set (by simpa using hlt')]
      have hv : listed[i] = false := by
        rw [Array.getD_eq_getD_getElem?, Array.getElem?_eq_getElem hlt'] at hf
        exact hf
      have hpos : 0 < listed.toList.count false := List.count_pos_iff.2 (by rw [← hv]; simp)
      rw [if_pos (by simp [hv]), if_neg (by decide)]
      omega
    · rw [getD_updD hlt']
      exact h
end
/-- what an operation waits for -/
def depsOf (md : Region.Mode) (ops : Array Oper) (i : Nat) : List Nat := ((ops[i]?).map fun o => (o.after.toList.filter fun e => Region.binds md e).map (·.on)).getD []
theorem wp_region_inv {P : Program} {id : Nat} {ops : Array Oper} {Q : Exit → Act → World → Prop} {a : Act} {w : World} (hm : P.follows .mixedOrders = true) (I : (Nat → Bool) → Act → World → Prop) (hlow : lowB .any ops = true)
    (h0 : I (fun _ => false) a { w with drawn := w.drawn + 1 })
    (hstep : ∀ i D a w, i < ops.size → D i = false → (∀ k, (depsOf .any ops i).contains k = true → D k = true) → I D a w → wpOp P ops Q i (fun a' w' => I (updD D i) a' w') a w)
    (hend : ∀ D a w, (∀ i, i < ops.size → D i = true) → I D a w → Q .normal a w) : (Code.region id ops true).wp P Q a w := by
  refine wp_region_any hm (wpAny_inv I hlow (fun i D a w hi hD hd hI => hstep i D a w hi hD (fun k hk => ?_) hI) hend ops.size _ a _ (by simp) ?_ ?_)
  · have h1 := List.contains_iff_mem.1 hk
    unfold depsOf at h1
    rw [Array.getElem?_eq_getElem hi] at h1
    simp only [Option.map_some, Option.getD_some, List.mem_map, List.mem_filter] at h1
    obtain ⟨e, ⟨h2, h3⟩, rfl⟩ := h1
    exact hd _ (Array.getElem?_eq_getElem hi) e (by simpa using h2) h3
  · simp
  · have e : (fun i => (Array.replicate ops.size false).getD i false) = fun _ => false := by
      funext i
      by_cases h : i < ops.size <;> simp [Array.getD_eq_getD_getElem?, h]
    rw [e]
    exact h0
end Go.Proofs.YthohoendjipleaaGreatDoor
