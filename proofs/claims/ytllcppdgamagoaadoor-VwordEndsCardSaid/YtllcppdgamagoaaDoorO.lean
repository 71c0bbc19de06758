/-
  The law VwordEnds, walked. Conditions: the table and the errors hold what start-up code lays.
-/
import Derived.Test.YtllcppdgamagoaaDoorM
import Derived.LoopTactic
namespace Go.Proofs.YtllcppdgamagoaaDoor
open Go.RowKit Go.Sort

/-- the versions that the law asks -/
def vers : List Int := [0, 1, 9, 10, 2147483648, 4611686018427387902, 4611686018427387903, 4611686018427387904, 18446744073709551615]
theorem vers_in (i : Nat) : 0 ≤ vers.getD i 0 ∧ vers.getD i 0 ≤ 18446744073709551615 := by
  by_cases h : i < 9
  · have hh : i = 0 ∨ i = 1 ∨ i = 2 ∨ i = 3 ∨ i = 4 ∨ i = 5 ∨ i = 6 ∨ i = 7 ∨ i = 8 := by omega
    rcases hh with rfl | rfl | rfl | rfl | rfl | rfl | rfl | rfl | rfl <;> simp [vers]
  · rw [List.getD_eq_getElem?_getD, List.getElem?_eq_none (by simp [vers]; omega)]
    simp
theorem vers_cell (w : World) (i : Nat) (h : i < 9) : (w.alloc (Obj.cells #[Value.int IntKind.u64 0, Value.int IntKind.u64 1, Value.int IntKind.u64 9, Value.int IntKind.u64 10, Value.int IntKind.u64 2147483648, Value.int IntKind.u64 4611686018427387902, Value.int IntKind.u64 4611686018427387903, Value.int IntKind.u64 4611686018427387904, Value.int IntKind.u64 18446744073709551615] 22)).cell? ⟨w.heap.size, i, none⟩ = some (.int .u64 (vers.getD i 0)) := by
  rw [World.cell?_alloc_new]
  have hh : i = 0 ∨ i = 1 ∨ i = 2 ∨ i = 3 ∨ i = 4 ∨ i = 5 ∨ i = 6 ∨ i = 7 ∨ i = 8 := by omega
  rcases hh with rfl | rfl | rfl | rfl | rfl | rfl | rfl | rfl | rfl <;> rfl

theorem tail_size (a : Nat) (h : a < 343) : (({ data := #[48, 49, 57, 43, 120, 45, 32] } : ByteArray).extract (a % 7) (a % 7 + 1) ++ ({ data := #[48, 49, 57, 43, 120, 45, 32] } : ByteArray).extract (a / 7 % 7) (a / 7 % 7 + 1) ++ ({ data := #[48, 49, 57, 43, 120, 45, 32] } : ByteArray).extract (a / 49) (a / 49 + 1)).size = 3 := by
  have h7 : (({ data := #[48, 49, 57, 43, 120, 45, 32] } : ByteArray)).size = 7 := rfl
  simp only [ByteArray.size_append, ByteArray.size_extract, h7]
  omega
theorem wrap_in (x : Int) : 0 ≤ IntKind.u64.wrap x ∧ IntKind.u64.wrap x ≤ 18446744073709551615 := by
  rw [IntKind.wrap_u64]; omega
theorem bits_in (op : BinOp) (x y : Int) : 0 ≤ bits op .u64 x y ∧ bits op .u64 x y ≤ 18446744073709551615 := by
  unfold bits
  exact wrap_in _
theorem heads_cell (wk : World) (i : Nat) (h : i < 4) : ∃ s : ByteArray, s.size ≤ 19 ∧ (wk.alloc (Obj.cells #[Value.string { data := #[] }, Value.string { data := #[52, 54, 49, 49, 54, 56, 54, 48, 49, 56, 52, 50, 55, 51, 56, 55] }, Value.string { data := #[52, 54, 49, 49, 54, 56, 54, 48, 49, 56, 52, 50, 55, 51, 56, 55, 57, 48, 51] }, Value.string { data := #[49, 56, 52, 52, 54, 55, 52, 52, 48, 55, 51, 55, 48, 57, 53, 53, 49, 54, 49] }] 9)).cell? ⟨wk.heap.size, i, none⟩ = some (.string s) := by
  have hh : i = 0 ∨ i = 1 ∨ i = 2 ∨ i = 3 := by omega
  rcases hh with rfl | rfl | rfl | rfl
  · exact ⟨⟨#[]⟩, by decide, by rw [World.cell?_alloc_new]; rfl⟩
  · exact ⟨⟨#[52, 54, 49, 49, 54, 56, 54, 48, 49, 56, 52, 50, 55, 51, 56, 55]⟩, by decide, by rw [World.cell?_alloc_new]; rfl⟩
  · exact ⟨⟨#[52, 54, 49, 49, 54, 56, 54, 48, 49, 56, 52, 50, 55, 51, 56, 55, 57, 48, 51]⟩, by decide, by rw [World.cell?_alloc_new]; rfl⟩
  · exact ⟨⟨#[49, 56, 52, 52, 54, 55, 52, 52, 48, 55, 51, 55, 48, 57, 53, 53, 49, 54, 49]⟩, by decide, by rw [World.cell?_alloc_new]; rfl⟩

set_option maxRecDepth 100000 in
set_option maxHeartbeats 4000000 in
theorem VwordEnds_any (w : World) (htab : Tab w) (he : Errs w) :
    Calls Tryd.prog 6 #[] w fun e w' => e = .returned (.bool true) ∧ Later w w' := by
  have hvc := vers_cell w
  have hlW : Later w (w.alloc (Obj.cells #[Value.int IntKind.u64 0, Value.int IntKind.u64 1, Value.int IntKind.u64 9, Value.int IntKind.u64 10, Value.int IntKind.u64 2147483648, Value.int IntKind.u64 4611686018427387902, Value.int IntKind.u64 4611686018427387903, Value.int IntKind.u64 4611686018427387904, Value.int IntKind.u64 18446744073709551615] 22)) := (Later.refl w).alloc _
  have HVC := Lib.hid hvc
  clear hvc
  have htW := htab.later hlW
  have heW := he.later hlW
  have hWs : w.heap.size < (w.alloc (Obj.cells #[Value.int IntKind.u64 0, Value.int IntKind.u64 1, Value.int IntKind.u64 9, Value.int IntKind.u64 10, Value.int IntKind.u64 2147483648, Value.int IntKind.u64 4611686018427387902, Value.int IntKind.u64 4611686018427387903, Value.int IntKind.u64 4611686018427387904, Value.int IntKind.u64 18446744073709551615] 22)).heap.size := by simp
  go_enter Tryd.func6, Tryd.ntmps6
  go_wp2_with fail
  generalize (w.alloc (Obj.cells #[Value.int IntKind.u64 0, Value.int IntKind.u64 1, Value.int IntKind.u64 9, Value.int IntKind.u64 10, Value.int IntKind.u64 2147483648, Value.int IntKind.u64 4611686018427387902, Value.int IntKind.u64 4611686018427387903, Value.int IntKind.u64 4611686018427387904, Value.int IntKind.u64 18446744073709551615] 22)) = W0 at *
  go_loopw [2, 3, 4, 5] (fun i _ _ _ wr => ∃ n : Nat, n ≤ 9 ∧ i = .int .i64 n ∧ Later W0 wr) (fun i _ _ _ _ => 9 - (RowKit.intOf i).toNat)
  case atStart => exact ⟨0, by omega, rfl, Later.refl _⟩
  case round =>
    obtain ⟨n, hn, rfl, hlr⟩ := hrel
    by_cases hn9 : n < 9
    · obtain ⟨v, hv⟩ : ∃ v, vers.getD n 0 = v := ⟨_, rfl⟩
      obtain ⟨v0, v1⟩ := vers_in n
      rw [hv] at v0 v1
      have hc0 := HVC.out n hn9
      rw [hv] at hc0
      clear hv
      have hd9 : decide ((n : Int) < 9) = true := by simp; omega
      go_wp2_with fail
      go_loopw [3, 4, 5] (fun k _ _ wr' => ∃ j : Nat, j ≤ 4 ∧ k = .int .i64 j ∧ Later wr wr') (fun k _ _ _ => 4 - (RowKit.intOf k).toNat)
      case atStart => exact ⟨0, by omega, rfl, Later.refl _⟩
      case round =>
        obtain ⟨j, hj, rfl, hlr2⟩ := hrel
        rename World => wk
        have hl2 := hlr.trans hlr2
        have hc : wk.cell? ⟨w.heap.size, n, none⟩ = some (.int .u64 v) := by rw [hl2.reads.1 _ _ hWs]; exact hc0
        have htk := htW.later hl2
        have hek := heW.later hl2
        by_cases hj4 : j < 4
        · by_cases hbig : v ≤ 4611686018427387903
          · obtain ⟨p, hp⟩ : ∃ p, (((j : Nat) : Int) % 2 == 1) = p := ⟨_, rfl⟩
            obtain ⟨q, hq⟩ : ∃ q, (((j : Nat) : Int) / 2 == 1) = q := ⟨_, rfl⟩
            obtain ⟨u, hu⟩ : ∃ u : Nat, v = u := ⟨v.toNat, by omega⟩
            obtain ⟨r, hr⟩ : ∃ r, r = wd v p q := ⟨_, rfl⟩
            obtain ⟨r0, r1, r4, rp, rq⟩ := wd_parts v r p q v0 hbig hr
            have hlen : (showL u p q).length ≤ 22 := by
              have := digits_19 u (by omega)
              cases p <;> cases q <;> simp [showL] <;> omega
            have HR := Lib.hid hr
            have R4 := Lib.hid (r4.trans hu)
            have RP := Lib.hid rp
            have RQ := Lib.hid rq
            clear hu hr r4 rp rq
            go_wp2_with fail
            refine (refNew_ok _ r _ _ _ v0 hbig HR.out).mono ?_
            rintro e w1 ⟨rfl, hb1⟩
            obtain ⟨rc, -, rz⟩ := hb1.reads
            have hz : w.heap.size < wk.heap.size := Nat.lt_of_lt_of_le hWs hl2.size
            have hc1 : w1.cell? ⟨w.heap.size, n, none⟩ = some (.int .u64 v) := by rw [rc _ _ hz]; exact hc
            clear rc
            go_wp2_with fail
            refine (VwordTells_any _ _ _ _ _ r0 r1 v0 v1 (htk.later hb1)).mono ?_
            rintro e w2 ⟨rfl, hb2⟩
            go_wp2_with fail
            refine (refShow_any _ u p q _ r0 r1 R4.out RP.out RQ.out).mono ?_
            rintro e w3 ⟨rfl, hb3⟩
            have l3 := (hb1.trans hb2).trans hb3
            go_wp2_with fail
            refine (reads_any _ (by rw [size_mk]; omega) _ (htk.later l3) (hek.later l3)).mono ?_
            rintro e w4 ⟨rfl, hb4⟩
            go_wp2_with fail
            go_roundw
            case rel => exact ⟨j + 1, by omega, by go_num, hlr2.trans (l3.trans hb4)⟩
            case measure => simp [RowKit.intOf]; omega
          · go_wp2_with fail
            refine (refNew_big _ _ _ _ (by omega)).mono ?_
            rintro e w1 ⟨rfl, hb1⟩
            obtain ⟨rc, -, rz⟩ := hb1.reads
            have hz : w.heap.size < wk.heap.size := Nat.lt_of_lt_of_le hWs hl2.size
            have hc1 : w1.cell? ⟨w.heap.size, n, none⟩ = some (.int .u64 v) := by rw [rc _ _ hz]; exact hc
            clear rc
            go_wp2_with fail
            refine (VwordTells_any _ _ _ _ _ (by omega) (by omega) v0 v1 (htk.later hb1)).mono ?_
            rintro e w2 ⟨rfl, hb2⟩
            go_wp2_with fail
            go_roundw
            case rel => exact ⟨j + 1, by omega, by go_num, hlr2.trans (hb1.trans hb2)⟩
            case measure => simp [RowKit.intOf]; omega
        · go_wp2_with fail
          go_roundw
          case rel => exact ⟨n + 1, by omega, by go_num, hl2⟩
          case measure => simp [RowKit.intOf]; omega
    · have hd9 : decide ((n : Int) < 9) = false := by simp; omega
      go_wp2_with fail
      go_loopw [6] (fun i wr2 => ∃ m : Nat, m ≤ 64 ∧ i = .int .i64 m ∧ Later wr wr2) (fun i _ => 64 - (RowKit.intOf i).toNat)
      case atStart => exact ⟨0, by omega, rfl, Later.refl _⟩
      case round =>
        obtain ⟨m, hm, rfl, hlr2⟩ := hrel
        rename World => wk
        have hl2 := hlr.trans hlr2
        have htk := htW.later hl2
        have hek := heW.later hl2
        by_cases hm64 : m < 64
        · go_wp2_with fail
          refine (tells_any _ _ (wrap_in _).1 (wrap_in _).2 htk).mono ?_
          rintro e w1 ⟨rfl, hb1⟩
          go_wp2_with fail
          refine (tells_any _ _ (bits_in _ _ _).1 (bits_in _ _ _).2 (htk.later hb1)).mono ?_
          rintro e w2 ⟨rfl, hb2⟩
          go_wp2_with fail
          go_roundw
          case rel => exact ⟨m + 1, by omega, by go_num, hlr2.trans (hb1.trans hb2)⟩
          case measure => simp [RowKit.intOf]; omega
        · have hd64 : decide ((m : Int) < 64) = false := by simp; omega
          have hhc := heads_cell wk
          have hl3 : Later wk (wk.alloc (Obj.cells #[Value.string { data := #[] }, Value.string { data := #[52, 54, 49, 49, 54, 56, 54, 48, 49, 56, 52, 50, 55, 51, 56, 55] }, Value.string { data := #[52, 54, 49, 49, 54, 56, 54, 48, 49, 56, 52, 50, 55, 51, 56, 55, 57, 48, 51] }, Value.string { data := #[49, 56, 52, 52, 54, 55, 52, 52, 48, 55, 51, 55, 48, 57, 53, 53, 49, 54, 49] }] 9)) := (Later.refl wk).alloc _
          have hWs3 : wk.heap.size < (wk.alloc (Obj.cells #[Value.string { data := #[] }, Value.string { data := #[52, 54, 49, 49, 54, 56, 54, 48, 49, 56, 52, 50, 55, 51, 56, 55] }, Value.string { data := #[52, 54, 49, 49, 54, 56, 54, 48, 49, 56, 52, 50, 55, 51, 56, 55, 57, 48, 51] }, Value.string { data := #[49, 56, 52, 52, 54, 55, 52, 52, 48, 55, 51, 55, 48, 57, 53, 53, 49, 54, 49] }] 9)).heap.size := by simp
          have HHC := Lib.hid hhc
          clear hhc
          go_wp2_with fail
          generalize (wk.alloc (Obj.cells #[Value.string { data := #[] }, Value.string { data := #[52, 54, 49, 49, 54, 56, 54, 48, 49, 56, 52, 50, 55, 51, 56, 55] }, Value.string { data := #[52, 54, 49, 49, 54, 56, 54, 48, 49, 56, 52, 50, 55, 51, 56, 55, 57, 48, 51] }, Value.string { data := #[49, 56, 52, 52, 54, 55, 52, 52, 48, 55, 51, 55, 48, 57, 53, 53, 49, 54, 49] }] 9)) = W3 at *
          go_loopw [9, 10, 11, 12] (fun c _ _ _ wr3 => ∃ a : Nat, a ≤ 343 ∧ c = .int .i64 a ∧ Later W3 wr3) (fun c _ _ _ _ => 343 - (RowKit.intOf c).toNat)
          case atStart => exact ⟨0, by omega, rfl, Later.refl _⟩
          case round =>
            obtain ⟨a, ha, rfl, hla⟩ := hrel
            rename World => wa
            have hla2 := hl3.trans hla
            by_cases ha343 : a < 343
            · have hd343 : decide ((a : Int) < 343) = true := by simp; omega
              go_wp2_with fail
              go_quiet (fail)
              have hT3 := tail_size a ha343
              generalize (({ data := #[48, 49, 57, 43, 120, 45, 32] } : ByteArray).extract (a % 7) (a % 7 + 1) ++ ({ data := #[48, 49, 57, 43, 120, 45, 32] } : ByteArray).extract (a / 7 % 7) (a / 7 % 7 + 1) ++ ({ data := #[48, 49, 57, 43, 120, 45, 32] } : ByteArray).extract (a / 49) (a / 49 + 1)) = T at *
              have hlb : Later W3 (wa.drewN nq) := hla.drewN _
              go_wp2_with fail
              go_loopw [11, 12] (fun c _ wr4 => ∃ k : Nat, k ≤ 4 ∧ c = .int .i64 k ∧ Later (wa.drewN nq) wr4) (fun c _ _ => 4 - (RowKit.intOf c).toNat)
              case atStart => exact ⟨0, by omega, rfl, Later.refl _⟩
              case round =>
                obtain ⟨k, hk, rfl, hlk⟩ := hrel
                rename World => wb
                by_cases hk4 : k < 4
                · have hdk4 : decide ((k : Int) < 4) = true := by simp; omega
                  go_wp2_with fail
                  go_loopw [12] (fun c wr5 => ∃ i : Nat, i ≤ 4 ∧ c = .int .i64 i ∧ Later wb wr5) (fun c _ => 4 - (RowKit.intOf c).toNat)
                  case atStart => exact ⟨0, by omega, rfl, Later.refl _⟩
                  case round =>
                    obtain ⟨i, hi, rfl, hli⟩ := hrel
                    rename World => wc
                    by_cases hi4 : i < 4
                    · have hlc : Later W3 wc := hlb.trans (hlk.trans hli)
                      obtain ⟨hd, hds, hdc⟩ := HHC.out i hi4
                      have hdc2 : wc.cell? ⟨wk.heap.size, i, none⟩ = some (.string hd) := by rw [hlc.reads.1 _ _ hWs3]; exact hdc
                      have k0 := cell_regrown hdc2
                      have htc := htk.later (hl3.trans hlc)
                      have hec := hek.later (hl3.trans hlc)
                      have hsz1 : (hd ++ T.extract 0 k).size ≤ 281474976710656 := by
                        rw [ByteArray.size_append, ByteArray.size_extract, hT3]; omega
                      have hsz2 : (hd ++ T.extract 0 k ++ ({ data := #[43, 120] } : ByteArray)).size ≤ 281474976710656 := by
                        rw [ByteArray.size_append, ByteArray.size_append, ByteArray.size_extract, hT3]
                        show hd.size + (min k 3 - 0) + 2 ≤ _
                        omega
                      have c1 := fun d os => quiet_later (reads_any _ hsz1 (grow (redrawn wc d) os) (htc.later (below_regrown wc d os)) (hec.later (below_regrown wc d os)))
                      have c2 := fun d os => quiet_later (reads_any _ hsz2 (grow (redrawn wc d) os) (htc.later (below_regrown wc d os)) (hec.later (below_regrown wc d os)))
                      have mixed : Tryd.prog.follows .mixedOrders = true := by kernel_rfl
                      have ik0 : (0 : Int) ≤ (k : Int) := by omega
                      have ik3 : (k : Int) ≤ 3 := by omega
                      have nk3 : k ≤ 3 := by omega
                      have n1 : ¬ 9223372036854775807 < hd.size + k := by omega
                      have n2 : ¬ 9223372036854775807 < hd.size + k + 2 := by omega
                      clear hsz1 hsz2 hdc hdc2
                      go_wp2_with fail
                      refine wp_region_quiet_below mixed (by kernel_rfl) ?_
                      repeat (quiet_step (first | with_reducible exact c1 _ _ | with_reducible exact c2 _ _))
                      refine wpQuiet_nil ?_
                      intro _ hw'
                      obtain ⟨⟨dq, osq⟩, hw''⟩ := hw'
                      subst hw''
                      go_wp2_with fail
                      go_roundw
                      case rel => exact ⟨i + 1, by omega, by go_num, hli.trans (below_regrown wc dq osq)⟩
                      case measure => simp [RowKit.intOf]; omega
                    · go_wp2_with fail
                      go_roundw
                      case rel => exact ⟨k + 1, by omega, by go_num, hlk.trans hli⟩
                      case measure => simp [RowKit.intOf]; omega
                · go_wp2_with fail
                  go_roundw
                  case rel => exact ⟨a + 1, by omega, by go_num, hlb.trans hlk⟩
                  case measure => simp [RowKit.intOf]; omega
            · go_wp2_with fail
              refine (reads_any _ (by decide) _ (htk.later hla2) (hek.later hla2)).mono ?_
              rintro e w1 ⟨rfl, hb1⟩
              go_wp2_with fail
              refine (reads_any _ (by decide) _ (htk.later (hla2.trans hb1)) (hek.later (hla2.trans hb1))).mono ?_
              rintro e w2 ⟨rfl, hb2⟩
              go_wp2_with fail
              refine (awake_any _ (htk.later ((hla2.trans hb1).trans hb2))).mono ?_
              rintro e w3 ⟨rfl, hb3⟩
              go_wp2_with fail
              go_ret
              exact ⟨rfl, hlW.trans (hl2.trans (((hla2.trans hb1).trans hb2).trans hb3))⟩
end Go.Proofs.YtllcppdgamagoaaDoor
