/-
  slices.Clone of Stats, walked. Conditions: at most 100 Stats.
-/
import Derived.Test.YthohoendjipleaaDoorRn
import Derived.Lib.Walk
import Derived.Lib.SliceRun
namespace Go.Proofs.YthohoendjipleaaDoor
open Go.RowKit Go.Sort Go.Lib
set_option linter.unusedSimpArgs false
set_option linter.unusedVariables false
set_option maxRecDepth 100000 in
theorem Clone_nil (w : World) : Calls Tryd.prog 22 #[.slice none 0 0] w fun e w' => e = .returned (.slice none 0 0) ∧ Later w w' := by
  have q22 : ∀ (w : World) (a : Option Addr) (n c n' c' : Nat), (binOp .eql 58 (.slice a n c) (.slice none n' c')).run Tryd.prog w = .ok (.bool a.isNone) w := fun w a n c n' c' => Lib.run_eql_slice_nil w _ _ a n c n' c' Tryd.underlying58
  go_enter Tryd.func22, Tryd.ntmps22
  go_wp2_with fail
  go_ret
  exact ⟨rfl, by repeat (first | exact Later.refl _ | assumption | apply Later.alloc | apply Later.drew | apply Later.drewN | refine Later.trans ?_ (by assumption))⟩
theorem info29 : (Tryd.prog.info? 29).map (fun i => (i.zero, i.size, i.bytes)) = some (some (.agg #[.int .u64 0, .int .u64 0, .int .u64 0, .int .u64 0, .int .u64 0, .int .u64 0, .int .u64 0, .int .u64 0, .int .u64 0, .int .u64 0, .complex .f64 0 0]), 11, 96) := by kernel_rfl
set_option maxRecDepth 100000 in
set_option maxHeartbeats 2000000 in
theorem Clone_is (G n cap : Nat) (xs : List Value) (hxs : xs.length = n * 11) (h1 : ∀ u ∈ xs, u.oneCell' = true) (hn : n ≤ 100) (w : World) (hc : ∀ j u, xs[j]? = some u → w.cell? ⟨G, j, none⟩ = some u) :
    Calls Tryd.prog 22 #[.slice (some ⟨G, 0, none⟩) n cap] w fun e w' => ∃ v', e = .returned v' ∧ w'.ownsRow w.heap.size 29 11 v' n xs ∧ Later w w' := by
  have q22 : ∀ (w : World) (a : Option Addr) (n c n' c' : Nat), (binOp .eql 58 (.slice a n c) (.slice none n' c')).run Tryd.prog w = .ok (.bool a.isNone) w := fun w a n c n' c' => Lib.run_eql_slice_nil w _ _ a n c n' c' Tryd.underlying58
  obtain ⟨i0, hi0, hiz, his, hib⟩ := info_parts info29
  have HC := Lib.hid hc
  clear hc
  go_enter Tryd.func22, Tryd.ntmps22
  go_wp2_with (first | (refine wpList_append_own _ rfl (.tmp 5) (.tmp 6) 58 rfl w.heap.size 29 i0 _ 11 96 Tryd.underlying58 hi0 hiz his hib rfl (by decide) _ _ _ rfl (World.ownsRow_made w #[] 0 (Nat.le_refl _) (Nat.zero_le _) (by simp)) ⟨G, 0, none⟩ n cap xs rfl ?c0 ?c1 ?c2 ?c3 ?c4 ?c5 ?_))
  case c0 => exact hxs
  case c1 => exact fun j u hu => by rw [addr_add]; exact Lib.cell?_alloc_some _ (HC.out j u hu)
  case c2 => exact h1
  case c3 => (unfold maxLen; omega)
  case c4 => omega
  case c5 => simp
  intro v' w1 hown hgrow hnil
  have HR := Lib.hid (show w1.ownsRow w.heap.size 29 11 v' n xs ∧ Later w w1 from ⟨by simpa using hown, ((Below.refl _ w).alloc (Nat.le_refl _) _).grown hgrow (by simp) (by intro k hk; simp [Value.ownBlock] at hk; omega)⟩)
  clear hown hgrow hnil
  go_wp2_with fail
  go_ret
  exact ⟨v', rfl, HR.out⟩
end Go.Proofs.YthohoendjipleaaDoor
