/-
  texts, walked. Conditions: the listed variables read as laid.
-/
import Derived.Test.YtpfnccjfmbecfaaDoorZ
import Derived.Test.YtpfnccjfmbecfaaDoorV
namespace Go.Proofs.YtpfnccjfmbecfaaDoor
open Go.RowKit Go.Sort Go.Lib

theorem texts_cell (w : World) (i : Nat) (h : i < 19) : ∃ s : ByteArray, s.size ≤ 30 ∧ (w.alloc (Obj.cells #[Value.string { data := #[49, 46, 49, 46, 114] }, Value.string { data := #[49, 54, 46, 52, 50, 57, 52, 57, 54, 55, 50, 57, 53, 46, 114, 119, 115] }, Value.string { data := #[57, 46, 49, 48, 46, 119, 115] }, Value.string { data := #[49, 48, 46, 52, 50, 57, 52, 57, 54, 55, 50, 57, 54, 46, 115] }, Value.string { data := #[48, 46, 49, 46, 114] }, Value.string { data := #[49, 55, 46, 49, 46, 114] }, Value.string { data := #[49, 46, 48, 46, 114] }, Value.string { data := #[49, 46, 49, 46] }, Value.string { data := #[] }, Value.string { data := #[46, 46] }, Value.string { data := #[49, 46, 49, 46, 114, 46] }, Value.string { data := #[50, 53, 54, 46, 49, 46, 114] }, Value.string { data := #[50, 55, 50, 46, 49, 46, 114] }, Value.string { data := #[49, 56, 52, 52, 54, 55, 52, 52, 48, 55, 51, 55, 48, 57, 53, 53, 49, 54, 49, 55, 46, 49, 46, 114] }, Value.string { data := #[49, 46, 49, 56, 52, 52, 54, 55, 52, 52, 48, 55, 51, 55, 48, 57, 53, 53, 49, 54, 49, 55, 46, 114] }, Value.string { data := #[49, 46, 49, 46, 114, 114] }, Value.string { data := #[49, 46, 49, 46, 120] }, Value.string { data := #[43, 49, 46, 49, 46, 114] }, Value.string { data := #[49, 46, 49, 95, 48, 46, 114] }] 9)).cell? ⟨w.heap.size, i, none⟩ = some (.string s) := by
  have hh : i = 0 ∨ i = 1 ∨ i = 2 ∨ i = 3 ∨ i = 4 ∨ i = 5 ∨ i = 6 ∨ i = 7 ∨ i = 8 ∨ i = 9 ∨ i = 10 ∨ i = 11 ∨ i = 12 ∨ i = 13 ∨ i = 14 ∨ i = 15 ∨ i = 16 ∨ i = 17 ∨ i = 18 := by omega
  rcases hh with rfl | rfl | rfl | rfl | rfl | rfl | rfl | rfl | rfl | rfl | rfl | rfl | rfl | rfl | rfl | rfl | rfl | rfl | rfl
  · exact ⟨{ data := #[49, 46, 49, 46, 114] }, by decide, by rw [World.cell?_alloc_new]; rfl⟩
  · exact ⟨{ data := #[49, 54, 46, 52, 50, 57, 52, 57, 54, 55, 50, 57, 53, 46, 114, 119, 115] }, by decide, by rw [World.cell?_alloc_new]; rfl⟩
  · exact ⟨{ data := #[57, 46, 49, 48, 46, 119, 115] }, by decide, by rw [World.cell?_alloc_new]; rfl⟩
  · exact ⟨{ data := #[49, 48, 46, 52, 50, 57, 52, 57, 54, 55, 50, 57, 54, 46, 115] }, by decide, by rw [World.cell?_alloc_new]; rfl⟩
  · exact ⟨{ data := #[48, 46, 49, 46, 114] }, by decide, by rw [World.cell?_alloc_new]; rfl⟩
  · exact ⟨{ data := #[49, 55, 46, 49, 46, 114] }, by decide, by rw [World.cell?_alloc_new]; rfl⟩
  · exact ⟨{ data := #[49, 46, 48, 46, 114] }, by decide, by rw [World.cell?_alloc_new]; rfl⟩
  · exact ⟨{ data := #[49, 46, 49, 46] }, by decide, by rw [World.cell?_alloc_new]; rfl⟩
  · exact ⟨{ data := #[] }, by decide, by rw [World.cell?_alloc_new]; rfl⟩
  · exact ⟨{ data := #[46, 46] }, by decide, by rw [World.cell?_alloc_new]; rfl⟩
  · exact ⟨{ data := #[49, 46, 49, 46, 114, 46] }, by decide, by rw [World.cell?_alloc_new]; rfl⟩
  · exact ⟨{ data := #[50, 53, 54, 46, 49, 46, 114] }, by decide, by rw [World.cell?_alloc_new]; rfl⟩
  · exact ⟨{ data := #[50, 55, 50, 46, 49, 46, 114] }, by decide, by rw [World.cell?_alloc_new]; rfl⟩
  · exact ⟨{ data := #[49, 56, 52, 52, 54, 55, 52, 52, 48, 55, 51, 55, 48, 57, 53, 53, 49, 54, 49, 55, 46, 49, 46, 114] }, by decide, by rw [World.cell?_alloc_new]; rfl⟩
  · exact ⟨{ data := #[49, 46, 49, 56, 52, 52, 54, 55, 52, 52, 48, 55, 51, 55, 48, 57, 53, 53, 49, 54, 49, 55, 46, 114] }, by decide, by rw [World.cell?_alloc_new]; rfl⟩
  · exact ⟨{ data := #[49, 46, 49, 46, 114, 114] }, by decide, by rw [World.cell?_alloc_new]; rfl⟩
  · exact ⟨{ data := #[49, 46, 49, 46, 120] }, by decide, by rw [World.cell?_alloc_new]; rfl⟩
  · exact ⟨{ data := #[43, 49, 46, 49, 46, 114] }, by decide, by rw [World.cell?_alloc_new]; rfl⟩
  · exact ⟨{ data := #[49, 46, 49, 95, 48, 46, 114] }, by decide, by rw [World.cell?_alloc_new]; rfl⟩
theorem signs_size (c : Nat) (h : c < 13) : (({ data := #[48, 49, 50, 57, 46, 114, 119, 115, 120, 43, 45, 95, 32] } : ByteArray).extract c (c + 1)).size = 1 := by
  have h7 : ({ data := #[48, 49, 50, 57, 46, 114, 119, 115, 120, 43, 45, 95, 32] } : ByteArray).size = 13 := rfl
  simp only [ByteArray.size_extract, h7]
  omega
set_option maxRecDepth 100000 in
set_option maxHeartbeats 6400000 in
theorem texts_is (w : World) (hw : Laid w) : Calls Tryd.prog 15 #[] w fun e w' => e = .returned (.bool true) ∧ Later w w' := by
  have HTC := Lib.hid (texts_cell w)
  have hlW : Later w (w.alloc (Obj.cells #[Value.string { data := #[49, 46, 49, 46, 114] }, Value.string { data := #[49, 54, 46, 52, 50, 57, 52, 57, 54, 55, 50, 57, 53, 46, 114, 119, 115] }, Value.string { data := #[57, 46, 49, 48, 46, 119, 115] }, Value.string { data := #[49, 48, 46, 52, 50, 57, 52, 57, 54, 55, 50, 57, 54, 46, 115] }, Value.string { data := #[48, 46, 49, 46, 114] }, Value.string { data := #[49, 55, 46, 49, 46, 114] }, Value.string { data := #[49, 46, 48, 46, 114] }, Value.string { data := #[49, 46, 49, 46] }, Value.string { data := #[] }, Value.string { data := #[46, 46] }, Value.string { data := #[49, 46, 49, 46, 114, 46] }, Value.string { data := #[50, 53, 54, 46, 49, 46, 114] }, Value.string { data := #[50, 55, 50, 46, 49, 46, 114] }, Value.string { data := #[49, 56, 52, 52, 54, 55, 52, 52, 48, 55, 51, 55, 48, 57, 53, 53, 49, 54, 49, 55, 46, 49, 46, 114] }, Value.string { data := #[49, 46, 49, 56, 52, 52, 54, 55, 52, 52, 48, 55, 51, 55, 48, 57, 53, 53, 49, 54, 49, 55, 46, 114] }, Value.string { data := #[49, 46, 49, 46, 114, 114] }, Value.string { data := #[49, 46, 49, 46, 120] }, Value.string { data := #[43, 49, 46, 49, 46, 114] }, Value.string { data := #[49, 46, 49, 95, 48, 46, 114] }] 9)) := (Later.refl w).alloc _
  have HW := Lib.hid (hw.later hlW)
  have hWs : w.heap.size < (w.alloc (Obj.cells #[Value.string { data := #[49, 46, 49, 46, 114] }, Value.string { data := #[49, 54, 46, 52, 50, 57, 52, 57, 54, 55, 50, 57, 53, 46, 114, 119, 115] }, Value.string { data := #[57, 46, 49, 48, 46, 119, 115] }, Value.string { data := #[49, 48, 46, 52, 50, 57, 52, 57, 54, 55, 50, 57, 54, 46, 115] }, Value.string { data := #[48, 46, 49, 46, 114] }, Value.string { data := #[49, 55, 46, 49, 46, 114] }, Value.string { data := #[49, 46, 48, 46, 114] }, Value.string { data := #[49, 46, 49, 46] }, Value.string { data := #[] }, Value.string { data := #[46, 46] }, Value.string { data := #[49, 46, 49, 46, 114, 46] }, Value.string { data := #[50, 53, 54, 46, 49, 46, 114] }, Value.string { data := #[50, 55, 50, 46, 49, 46, 114] }, Value.string { data := #[49, 56, 52, 52, 54, 55, 52, 52, 48, 55, 51, 55, 48, 57, 53, 53, 49, 54, 49, 55, 46, 49, 46, 114] }, Value.string { data := #[49, 46, 49, 56, 52, 52, 54, 55, 52, 52, 48, 55, 51, 55, 48, 57, 53, 53, 49, 54, 49, 55, 46, 114] }, Value.string { data := #[49, 46, 49, 46, 114, 114] }, Value.string { data := #[49, 46, 49, 46, 120] }, Value.string { data := #[43, 49, 46, 49, 46, 114] }, Value.string { data := #[49, 46, 49, 95, 48, 46, 114] }] 9)).heap.size := by simp
  clear hw
  go_enter Tryd.func15, Tryd.ntmps15
  go_wp2_with fail
  generalize (w.alloc (Obj.cells #[Value.string { data := #[49, 46, 49, 46, 114] }, Value.string { data := #[49, 54, 46, 52, 50, 57, 52, 57, 54, 55, 50, 57, 53, 46, 114, 119, 115] }, Value.string { data := #[57, 46, 49, 48, 46, 119, 115] }, Value.string { data := #[49, 48, 46, 52, 50, 57, 52, 57, 54, 55, 50, 57, 54, 46, 115] }, Value.string { data := #[48, 46, 49, 46, 114] }, Value.string { data := #[49, 55, 46, 49, 46, 114] }, Value.string { data := #[49, 46, 48, 46, 114] }, Value.string { data := #[49, 46, 49, 46] }, Value.string { data := #[] }, Value.string { data := #[46, 46] }, Value.string { data := #[49, 46, 49, 46, 114, 46] }, Value.string { data := #[50, 53, 54, 46, 49, 46, 114] }, Value.string { data := #[50, 55, 50, 46, 49, 46, 114] }, Value.string { data := #[49, 56, 52, 52, 54, 55, 52, 52, 48, 55, 51, 55, 48, 57, 53, 53, 49, 54, 49, 55, 46, 49, 46, 114] }, Value.string { data := #[49, 46, 49, 56, 52, 52, 54, 55, 52, 52, 48, 55, 51, 55, 48, 57, 53, 53, 49, 54, 49, 55, 46, 114] }, Value.string { data := #[49, 46, 49, 46, 114, 114] }, Value.string { data := #[49, 46, 49, 46, 120] }, Value.string { data := #[43, 49, 46, 49, 46, 114] }, Value.string { data := #[49, 46, 49, 95, 48, 46, 114] }] 9)) = W0 at *
  obtain ⟨L, hL⟩ : ∃ L, w.heap.size = L := ⟨_, rfl⟩
  rw [hL] at HTC hWs ⊢
  clear hL
  have hg13 : ({ data := #[48, 49, 50, 57, 46, 114, 119, 115, 120, 43, 45, 95, 32] } : ByteArray).size = 13 := rfl
  go_loopw [3, 4, 5, 6] (fun v _ _ _ wr => ∃ i : Nat, i ≤ 19 ∧ v = .int .i64 i ∧ Later W0 wr) (fun v _ _ _ _ => 19 - (RowKit.intOf v).toNat)
  case atStart => exact ⟨0, by omega, rfl, Later.refl _⟩
  case round =>
    obtain ⟨i, hi, rfl, hlr⟩ := hrel
    by_cases hi19 : i < 19
    · obtain ⟨S, hS, hc0⟩ := HTC.out i hi19
      have hd19 : decide ((i : Int) < 19) = true := by simp; omega
      rename World => wa
      have hc1 : wa.cell? ⟨L, i, none⟩ = some (.string S) := by rw [hlr.reads.1 _ _ hWs]; exact hc0
      clear hc0
      go_wp2_with fail
      go_loopw [5, 6] (fun v _ wr => ∃ k : Nat, k ≤ S.size + 1 ∧ v = .int .i64 k ∧ Later wa wr) (fun v _ _ => S.size + 1 - (RowKit.intOf v).toNat)
      case atStart => exact ⟨0, by omega, rfl, Later.refl _⟩
      case round =>
        obtain ⟨k, hk, rfl, hlk⟩ := hrel
        rename World => wb
        by_cases hk1 : k ≤ S.size
        · have hdk : decide (k ≤ S.size) = true := by simpa using hk1
          go_wp2_with fail
          go_loopw [6] (fun v wr => ∃ c : Nat, c ≤ 13 ∧ v = .int .i64 c ∧ Later wb wr) (fun v _ => 13 - (RowKit.intOf v).toNat)
          case atStart => exact ⟨0, by omega, rfl, Later.refl _⟩
          case round =>
            obtain ⟨c, hc, rfl, hlc⟩ := hrel
            rename World => wc
            have hlw := hlr.trans (hlk.trans hlc)
            have hlaid := HW.out.later hlw
            by_cases hc13 : c < 13
            · have hdc : decide ((c : Int) < 13) = true := by simp; omega
              have hsg := signs_size c hc13
              obtain ⟨X1, hX1⟩ : ∃ X, S.extract 0 k ++ ({ data := #[48, 49, 50, 57, 46, 114, 119, 115, 120, 43, 45, 95, 32] } : ByteArray).extract c (c + 1) ++ S.extract k S.size = X := ⟨_, rfl⟩
              have hsz1 : (S.extract 0 k ++ ({ data := #[48, 49, 50, 57, 46, 114, 119, 115, 120, 43, 45, 95, 32] } : ByteArray).extract c (c + 1) ++ S.extract k S.size).size ≤ 1000 := by
                simp only [ByteArray.size_append, ByteArray.size_extract, hg13]; omega
              have hsz2 : (S.extract 0 k ++ ({ data := #[48, 49, 50, 57, 46, 114, 119, 115, 120, 43, 45, 95, 32] } : ByteArray).extract c (c + 1) ++ S.extract (k + 1) S.size).size ≤ 1000 := by
                simp only [ByteArray.size_append, ByteArray.size_extract, hg13]; omega
              have c1 := fun d os => quiet_later (reads_is _ hsz1 (grow (redrawn wc d) os) (hlaid.later (below_regrown wc d os)))
              have c2 := fun d os => quiet_later (reads_is _ hsz2 (grow (redrawn wc d) os) (hlaid.later (below_regrown wc d os)))
              have mixed : Tryd.prog.follows .mixedOrders = true := by kernel_rfl
              have ik0 : (0 : Int) ≤ (k : Int) := by omega
              have ik1 : (k : Int) ≤ (S.size : Int) := by omega
              have ic0 : (0 : Int) ≤ (c : Int) := by omega
              have ic1 : (c : Int) + 1 ≤ 13 := by omega
              clear hsz1 hsz2 hX1
              have pc1 : (0 : Int) ≤ (c : Int) + 1 := by omega
              have pk1 : (0 : Int) ≤ (k : Int) + 1 := by omega
              have lc1 : (c : Int) ≤ (c : Int) + 1 := by omega
              have n1 : ¬ 9223372036854775807 < k + 1 := by omega
              have n2 : ¬ 9223372036854775807 < k + 1 + (S.size - k) := by omega
              by_cases hk2 : k < S.size
              · have hdk2 : decide (k < S.size) = true := by simpa using hk2
                have ik2 : (k : Int) + 1 ≤ (S.size : Int) := by omega
                have n3 : ¬ 9223372036854775807 < k + 1 + (S.size - (k + 1)) := by omega
                have wc1 : IntKind.i64.wrap ((c : Int) + 1) = (c : Int) + 1 := IntWalk.i64_in _ (by omega)
                have wk1 : IntKind.i64.wrap ((k : Int) + 1) = (k : Int) + 1 := IntWalk.i64_in _ (by omega)
                have tc1 : ((c : Int) + 1).toNat = c + 1 := by omega
                have tk1 : ((k : Int) + 1).toNat = k + 1 := by omega
                go_wp2_with fail
                refine wp_region_quiet_below mixed (by kernel_rfl) ?_
                repeat (with_reducible refine wpQuiet_step (fun K hK => ?_); go_simp; first | (refine hK _ ?_; clear hK K) | (apply Exists.intro; refine ⟨fun _ => ?_, hK _ ?_⟩; (first | with_reducible exact c1 _ _ | with_reducible exact c2 _ _); clear hK K))
                refine wpQuiet_nil ?_
                intro _ hw'
                obtain ⟨⟨dq, osq⟩, hw''⟩ := hw'
                subst hw''
                clear wc1 wk1 tc1 tk1 c1 c2
                go_wp2_with fail
                go_roundw
                case rel => exact ⟨c + 1, by omega, by go_num, hlc.trans (below_regrown wc dq osq)⟩
                case measure => simp [RowKit.intOf]; omega
              · have hdk2 : decide (k < S.size) = false := by simpa using hk2
                have wc1 : IntKind.i64.wrap ((c : Int) + 1) = (c : Int) + 1 := IntWalk.i64_in _ (by omega)
                have wk1 : IntKind.i64.wrap ((k : Int) + 1) = (k : Int) + 1 := IntWalk.i64_in _ (by omega)
                have tc1 : ((c : Int) + 1).toNat = c + 1 := by omega
                have tk1 : ((k : Int) + 1).toNat = k + 1 := by omega
                go_wp2_with fail
                refine wp_region_quiet_below mixed (by kernel_rfl) ?_
                repeat (with_reducible refine wpQuiet_step (fun K hK => ?_); go_simp; first | (refine hK _ ?_; clear hK K) | (apply Exists.intro; refine ⟨fun _ => ?_, hK _ ?_⟩; (first | with_reducible exact c1 _ _ | with_reducible exact c2 _ _); clear hK K))
                refine wpQuiet_nil ?_
                intro _ hw'
                obtain ⟨⟨dq, osq⟩, hw''⟩ := hw'
                subst hw''
                clear wc1 wk1 tc1 tk1 c1 c2
                go_wp2_with fail
                go_roundw
                case rel => exact ⟨c + 1, by omega, by go_num, hlc.trans (below_regrown wc dq osq)⟩
                case measure => simp [RowKit.intOf]; omega
            · have hdc : decide ((c : Int) < 13) = false := by simp; omega
              have hsz1 : (S.extract 0 k).size ≤ 1000 := by simp only [ByteArray.size_extract]; omega
              have hsz2 : (S.extract k S.size).size ≤ 1000 := by simp only [ByteArray.size_extract]; omega
              have hsz3 : (S.extract 0 k ++ S.extract (k + 1) S.size).size ≤ 1000 := by simp only [ByteArray.size_append, ByteArray.size_extract]; omega
              have c1 := fun d os => quiet_later (reads_is _ hsz1 (grow (redrawn wc d) os) (hlaid.later (below_regrown wc d os)))
              have c2 := fun d os => quiet_later (reads_is _ hsz2 (grow (redrawn wc d) os) (hlaid.later (below_regrown wc d os)))
              have c3 := fun d os => quiet_later (reads_is _ hsz3 (grow (redrawn wc d) os) (hlaid.later (below_regrown wc d os)))
              have mixed : Tryd.prog.follows .mixedOrders = true := by kernel_rfl
              have ik0 : (0 : Int) ≤ (k : Int) := by omega
              have ik1 : (k : Int) ≤ (S.size : Int) := by omega
              clear hsz1 hsz2 hsz3
              have pk1 : (0 : Int) ≤ (k : Int) + 1 := by omega
              by_cases hk2 : k < S.size
              · have hdk2 : decide (k < S.size) = true := by simpa using hk2
                have ik2 : (k : Int) + 1 ≤ (S.size : Int) := by omega
                have n3 : ¬ 9223372036854775807 < k + (S.size - (k + 1)) := by omega
                have wk1 : IntKind.i64.wrap ((k : Int) + 1) = (k : Int) + 1 := IntWalk.i64_in _ (by omega)
                have tk1 : ((k : Int) + 1).toNat = k + 1 := by omega
                go_wp2_with fail
                refine wp_region_quiet_below mixed (by kernel_rfl) ?_
                repeat (with_reducible refine wpQuiet_step (fun K hK => ?_); go_simp; first | (refine hK _ ?_; clear hK K) | (apply Exists.intro; refine ⟨fun _ => ?_, hK _ ?_⟩; (first | with_reducible exact c1 _ _ | with_reducible exact c2 _ _ | with_reducible exact c3 _ _); clear hK K))
                refine wpQuiet_nil ?_
                intro _ hw'
                obtain ⟨⟨dq, osq⟩, hw''⟩ := hw'
                subst hw''
                clear wk1 tk1 c1 c2 c3
                go_wp2_with fail
                go_roundw
                case rel => exact ⟨k + 1, by omega, by go_num, hlk.trans (hlc.trans (below_regrown wc dq osq))⟩
                case measure => simp [RowKit.intOf]; omega
              · have hdk2 : decide (k < S.size) = false := by simpa using hk2
                have wk1 : IntKind.i64.wrap ((k : Int) + 1) = (k : Int) + 1 := IntWalk.i64_in _ (by omega)
                have tk1 : ((k : Int) + 1).toNat = k + 1 := by omega
                go_wp2_with fail
                refine wp_region_quiet_below mixed (by kernel_rfl) ?_
                repeat (with_reducible refine wpQuiet_step (fun K hK => ?_); go_simp; first | (refine hK _ ?_; clear hK K) | (apply Exists.intro; refine ⟨fun _ => ?_, hK _ ?_⟩; (first | with_reducible exact c1 _ _ | with_reducible exact c2 _ _ | with_reducible exact c3 _ _); clear hK K))
                refine wpQuiet_nil ?_
                intro _ hw'
                obtain ⟨⟨dq, osq⟩, hw''⟩ := hw'
                subst hw''
                clear wk1 tk1 c1 c2 c3
                go_wp2_with fail
                go_roundw
                case rel => exact ⟨k + 1, by omega, by go_num, hlk.trans (hlc.trans (below_regrown wc dq osq))⟩
                case measure => simp [RowKit.intOf]; omega
        · have hdk : decide (k ≤ S.size) = false := by simpa using hk1
          go_wp2_with fail
          go_roundw
          case rel => exact ⟨i + 1, by omega, by go_num, hlr.trans hlk⟩
          case measure => simp [RowKit.intOf]; omega
    · have hd19 : decide ((i : Int) < 19) = false := by simp; omega
      go_wp2_with fail
      go_loopw [7, 8, 9] (fun v _ _ wr4 => ∃ r : Nat, 1 ≤ r ∧ r ≤ 8 ∧ v = .int .i64 r ∧ Later W0 wr4) (fun v _ _ _ => 8 - (RowKit.intOf v).toNat)
      case atStart => exact ⟨1, by omega, by omega, rfl, hlr⟩
      case round =>
        obtain ⟨r, hr1, hr8, rfl, hl4⟩ := hrel
        rename World => wd
        by_cases hlt : r < 8
        · have hsh : ∃ T : ByteArray, T.size ≤ 50 ∧ ∀ W, Calls Tryd.prog 26 #[.agg #[.int .i64 ((r : Int) + 8), .int .u32 ((r : Int) * 1111), .int .u8 (r : Int)]] W fun e w' => e = .returned (.tuple #[.string T, .int .i64 0]) ∧ Later W w' := by
            refine ⟨⟨(showH (r + 8) (r * 1111) r).toArray⟩, by rw [size_mk]; exact showH_len _ _ _ (by omega) (by omega), fun W => ?_⟩
            rw [show (r : Int) + 8 = ((r + 8 : Nat) : Int) by omega, show (r : Int) * 1111 = ((r * 1111 : Nat) : Int) by omega]
            exact refShow_yes (r + 8) (r * 1111) r W ((okH_iff _ _ _).2 ⟨by omega, by omega, by omega, by omega⟩) (by omega)
          obtain ⟨T, hT, hsh⟩ := hsh
          have hrd1 := fun w1 h1 => reads_is T (by omega) w1 h1
          have hrd2 := fun w1 h1 => reads_is (T ++ T) (by rw [ByteArray.size_append]; omega) w1 h1
          have HSH := Lib.hid hsh
          have HR1 := Lib.hid hrd1
          have HR2 := Lib.hid hrd2
          have n1 : ¬ 9223372036854775807 < T.size + T.size := by omega
          clear hsh hrd1 hrd2
          go_wp2_with fail
          refine (HSH.out _).mono ?_
          rintro e w5 ⟨rfl, hb5⟩
          have hl5 := hl4.trans hb5
          go_wp2_with fail
          refine (HR1.out _ (HW.out.later hl5)).mono ?_
          rintro e w6 ⟨rfl, hb6⟩
          have hl6 := hl5.trans hb6
          go_wp2_with fail
          refine (HR2.out _ (HW.out.later hl6)).mono ?_
          rintro e w7 ⟨rfl, hb7⟩
          go_wp2_with fail
          go_roundw
          case rel => exact ⟨r + 1, by omega, by omega, by go_num, hl6.trans hb7⟩
          case measure => simp [RowKit.intOf]; omega
        · go_wp2_with fail
          go_ret
          exact ⟨rfl, hlW.trans hl4⟩
end Go.Proofs.YtpfnccjfmbecfaaDoor
