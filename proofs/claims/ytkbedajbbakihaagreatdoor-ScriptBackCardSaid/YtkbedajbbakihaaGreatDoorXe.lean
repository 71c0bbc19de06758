/-
 Texts of this proof, put together (Af): each part's first words say what it holds. Conditions: as each part says.
-/
import Derived.Test.YtkbedajbbakihaaGreatDoorYd
import Derived.Deep.Upon
/-
 Lists appended, whatever their address. Conditions: the list that grows is the call's own.
-/
namespace Go.Proofs.YtkbedajbbakihaaGreatDoor
open Go.RowKit
set_option linter.unusedSimpArgs false
set_option linter.unusedVariables false

theorem wp_append_list {P : Program} {o : Oper} {a : Act} {K : Act → World → Prop} {Q : Exit → Act → World → Prop} (w : World) (s x : Operand) (t : TypeId)
  (ho : o.op = .call { callee := .builtin .append, args := #[s, x], argTypes := #[t, t] })
  (base : Nat) (e : TypeId) (i : TypeInfo) (z : Value) (size bytes : Nat) (ht : P.underlying t = some (.slice e)) (hi : P.info? e = some i) (hz : i.zero = some z)
  (hsize : i.size = size) (hby : i.bytes = bytes) (hzs : z.cells.size = size) (hsz : 0 < size)
  (v : Value) (n : Nat) (xs : List Value) (hs : a.eval s = v) (hown : w.ownsRow base e size v n xs)
  (ao : Option Addr) (m c : Nat) (news : List Value) (hx : a.eval x = .slice ao m c) (hl : news.length = m * size)
  (hsrc : m = 0 ∨ ∃ X off, ao = some ⟨X, off, none⟩ ∧ ∀ j u, news[j]? = some u → w.cell? ⟨X, off + j, none⟩ = some u) (h1 : ∀ u ∈ news, u.oneCell' = true)
  (h63 : n + m ≤ maxLen) (hbytes : (n + m) * bytes ≤ 140737488355328) (hbase : base ≤ w.heap.size)
  (h : ∀ v' w', w'.ownsRow base e size v' (n + m) (xs ++ news) → w.grownBy w' v.ownBlock → K (a.put o.dst v') w') : o.wp P a w K Q := by
 cases ao with
 | some ad =>
  refine wp_append_own w s x t ho base e i z size bytes ht hi hz hsize hby hzs hsz v n xs hs hown ad m c news hx hl ?_ h1 h63 hbytes hbase (fun v' w' k1 k2 _ => h v' w' k1 k2)
  intro j u hu
  rcases hsrc with rfl | ⟨X, off, he, hc⟩
  ·rw [Nat.zero_mul] at hl
   rw [List.length_eq_zero_iff.1 hl] at hu
   cases hu
  ·cases he
   rw [Addr.add_lit]
   exact hc j u hu
 | none =>
  obtain rfl : m = 0 := by
   rcases hsrc with h0 | ⟨X, off, he, _⟩
   ·exact h0
   ·cases he
  rw [Nat.zero_mul] at hl
  obtain rfl := List.length_eq_zero_iff.1 hl
  obtain ⟨sa, sc, rfl, hle⟩ : ∃ sa sc, v = .slice sa n sc ∧ n ≤ sc := by
   rcases hown.2 with ⟨rfl, h0⟩ | ⟨g, cap, cur, rfl, hcap, _⟩
   ·exact ⟨none, 0, by rw [h0], by omega⟩
   ·exact ⟨_, _, rfl, by first | exact hcap | exact hcap.1 | omega⟩
  have hr := run_append_nothing w t t o.type e i ht hi sa n sc hle (.slice none 0 c) (Src.ofNil w ht c)
  unfold Oper.wp execOp
  simp only [ho, resolve, invoke, builtin, Sem.run_bind, Sem.run_pure, Result.andThen_ok, List.map_toArray, List.map_cons, List.map_nil, hs, hx, hr]
  exact h _ w (by simpa using hown) (World.grownBy.refl _ _)
theorem entC_len (es : List (Int × Req)) : (entC es).length = es.length * 13 := by
 induction es with
 | nil => rfl
 | cons a t ih =>
  have hs : entC (a :: t) = ent1 a ++ entC t := by simp [entC, ent1]
  rw [hs, List.length_append, ent1_len, ih, List.length_cons]
  omega
theorem entC_append (a b : List (Int × Req)) : entC (a ++ b) = entC a ++ entC b := by simp [entC]
theorem ints_append (a b : List Int) : ints (a ++ b) = ints a ++ ints b := by simp [ints]
theorem entC_one (es : List (Int × Req)) : ∀ u ∈ entC es, u.oneCell' = true := by
 intro u hu
 obtain ⟨e, _, he⟩ := List.mem_flatMap.1 hu
 clear hu
 revert u
 simp [reqA, strV, Value.oneCell']
theorem ints_one (l : List Int) : ∀ u ∈ ints l, u.oneCell' = true := by
 intro u hu
 obtain ⟨e, _, rfl⟩ := List.mem_map.1 hu
 rfl
theorem EntsAt.src {w : World} {ao : Option Addr} {n c : Nat} {es : List (Int × Req)} (h : EntsAt w (.slice ao n c) es) : n = 0 ∨ ∃ X off, ao = some ⟨X, off, none⟩ ∧ ∀ j u, (entC es)[j]? = some u → w.cell? ⟨X, off + j, none⟩ = some u := by
 obtain ⟨ao', cap, he, h2⟩ := h
 obtain ⟨rfl, rfl, rfl⟩ : ao = ao' ∧ n = es.length ∧ c = cap := by injection he; simp_all
 refine h2.imp id ?_
 rintro ⟨X, off, h3, h4⟩
 refine ⟨X, off, h3, fun j u hu => ?_⟩
 have hj : j < es.length * 13 := by
  rw [← entC_len]
  exact (List.getElem?_eq_some_iff.1 hu).1
 obtain ⟨e, he⟩ : ∃ e, es[j / 13]? = some e := ⟨_, List.getElem?_eq_getElem (by omega)⟩
 obtain ⟨v, hv⟩ : ∃ v, (ent1 e)[j % 13]? = some v := ⟨_, List.getElem?_eq_getElem (by rw [ent1_len]; omega)⟩
 have h5 := entC_at es (j / 13) (j % 13) e v he hv
 rw [show j / 13 * 13 + j % 13 = j by omega] at h5
 obtain rfl : v = u := Option.some.inj (h5.symm.trans hu)
 have h6 := h4 (j / 13) e he (j % 13) v hv
 rwa [show off + j / 13 * 13 + j % 13 = off + j by omega] at h6
theorem NumsAt.src {w : World} {ao : Option Addr} {n c : Nat} {ps : List Int} (h : NumsAt w (.slice ao n c) ps) : n = 0 ∨ ∃ X off, ao = some ⟨X, off, none⟩ ∧ ∀ j u, (ints ps)[j]? = some u → w.cell? ⟨X, off + j, none⟩ = some u := by
 obtain ⟨ao', cap, he, h2⟩ := h
 obtain ⟨rfl, rfl, rfl⟩ : ao = ao' ∧ n = ps.length ∧ c = cap := by injection he; simp_all
 refine h2.imp id ?_
 rintro ⟨X, off, h3, h4⟩
 refine ⟨X, off, h3, fun j u hu => ?_⟩
 unfold ints at hu
 rw [List.getElem?_map] at hu
 obtain ⟨p, hp, rfl⟩ := Option.map_eq_some_iff.1 hu
 have hj := (List.getElem?_eq_some_iff.1 hp).1
 rw [h4 j hj, List.getD_eq_getElem?_getD, hp]
 rfl
end Go.Proofs.YtkbedajbbakihaaGreatDoor
