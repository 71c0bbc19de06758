/-
  The reference's Read, walked. Conditions: the text is short.
-/
import Derived.Test.YtpfnccjfmbecfaaDoorW
import Derived.BigRegion
namespace Go.Proofs.YtpfnccjfmbecfaaDoor
open Go.RowKit Go.Sort Go.Lib

/-- what the loop keeps: the result's cells (block R) and the three numbers (block N) -/
def NInv (w V : World) (R N : Nat) (a b c : Int) : Prop :=
  Later w V ∧ (w.heap.size ≤ R ∧ R < N ∧ N < V.heap.size) ∧ (V.cell? ⟨R, 0, none⟩ = some (.int .i64 0) ∧ V.cell? ⟨R, 1, none⟩ = some (.int .u32 0) ∧ V.cell? ⟨R, 2, none⟩ = some (.int .u8 0)) ∧
  (V.frozen? ⟨R, 0, none⟩ = false ∧ V.frozen? ⟨R, 1, none⟩ = false ∧ V.frozen? ⟨R, 2, none⟩ = false) ∧
  (V.cell? ⟨N, 0, none⟩ = some (.int .i64 a) ∧ V.cell? ⟨N, 1, none⟩ = some (.int .i64 b) ∧ V.cell? ⟨N, 2, none⟩ = some (.int .i64 c)) ∧
  (V.frozen? ⟨N, 0, none⟩ = false ∧ V.frozen? ⟨N, 1, none⟩ = false ∧ V.frozen? ⟨N, 2, none⟩ = false)
theorem NInv.later {w V U : World} {R N : Nat} {a b c : Int} (h : NInv w V R N a b c) (hl : Later V U) : NInv w U R N a b c := by
  obtain ⟨h1, ⟨h2, h3, h4⟩, ⟨a0, a1, a2⟩, ⟨f0, f1, f2⟩, ⟨b0, b1, b2⟩, ⟨g0, g1, g2⟩⟩ := h
  have hR : R < V.heap.size := by omega
  exact ⟨h1.trans hl, ⟨h2, h3, Nat.lt_of_lt_of_le h4 hl.size⟩, ⟨cell_at hl a0 hR, cell_at hl a1 hR, cell_at hl a2 hR⟩, ⟨frz_at hl f0 hR, frz_at hl f1 hR, frz_at hl f2 hR⟩,
    ⟨cell_at hl b0 h4, cell_at hl b1 h4, cell_at hl b2 h4⟩, ⟨frz_at hl g0 h4, frz_at hl g1 h4, frz_at hl g2 h4⟩⟩
theorem NInv.store0 {w V : World} {R N : Nat} {a b c : Int} (h : NInv w V R N a b c) (y : Int) : NInv w (V.setCell ⟨N, 0, none⟩ (.int .i64 y)) R N y b c := by
  obtain ⟨h1, ⟨h2, h3, h4⟩, ⟨a0, a1, a2⟩, ⟨f0, f1, f2⟩, ⟨b0, b1, b2⟩, ⟨g0, g1, g2⟩⟩ := h
  refine ⟨h1.setCell _ _ (by show w.heap.size ≤ N; omega), ⟨h2, h3, by simpa using h4⟩, ⟨?_, ?_, ?_⟩, ⟨by simpa using f0, by simpa using f1, by simpa using f2⟩, ⟨World.cell?_setCell_same V _ _ b0, (World.cell?_setCell_other V _ _ _ (by simp)).trans b1, (World.cell?_setCell_other V _ _ _ (by simp)).trans b2⟩, ⟨by simpa using g0, by simpa using g1, by simpa using g2⟩⟩
  · exact (World.cell?_setCell_other V _ _ _ (by intro h; injection h with h; omega)).trans a0
  · exact (World.cell?_setCell_other V _ _ _ (by intro h; injection h with h; omega)).trans a1
  · exact (World.cell?_setCell_other V _ _ _ (by intro h; injection h with h; omega)).trans a2
theorem NInv.store1 {w V : World} {R N : Nat} {a b c : Int} (h : NInv w V R N a b c) (y : Int) : NInv w (V.setCell ⟨N, 1, none⟩ (.int .i64 y)) R N a y c := by
  obtain ⟨h1, ⟨h2, h3, h4⟩, ⟨a0, a1, a2⟩, ⟨f0, f1, f2⟩, ⟨b0, b1, b2⟩, ⟨g0, g1, g2⟩⟩ := h
  refine ⟨h1.setCell _ _ (by show w.heap.size ≤ N; omega), ⟨h2, h3, by simpa using h4⟩, ⟨?_, ?_, ?_⟩, ⟨by simpa using f0, by simpa using f1, by simpa using f2⟩, ⟨(World.cell?_setCell_other V _ _ _ (by simp)).trans b0, World.cell?_setCell_same V _ _ b1, (World.cell?_setCell_other V _ _ _ (by simp)).trans b2⟩, ⟨by simpa using g0, by simpa using g1, by simpa using g2⟩⟩
  · exact (World.cell?_setCell_other V _ _ _ (by intro h; injection h with h; omega)).trans a0
  · exact (World.cell?_setCell_other V _ _ _ (by intro h; injection h with h; omega)).trans a1
  · exact (World.cell?_setCell_other V _ _ _ (by intro h; injection h with h; omega)).trans a2
theorem NInv.store2 {w V : World} {R N : Nat} {a b c : Int} (h : NInv w V R N a b c) (y : Int) : NInv w (V.setCell ⟨N, 2, none⟩ (.int .i64 y)) R N a b y := by
  obtain ⟨h1, ⟨h2, h3, h4⟩, ⟨a0, a1, a2⟩, ⟨f0, f1, f2⟩, ⟨b0, b1, b2⟩, ⟨g0, g1, g2⟩⟩ := h
  refine ⟨h1.setCell _ _ (by show w.heap.size ≤ N; omega), ⟨h2, h3, by simpa using h4⟩, ⟨?_, ?_, ?_⟩, ⟨by simpa using f0, by simpa using f1, by simpa using f2⟩, ⟨(World.cell?_setCell_other V _ _ _ (by simp)).trans b0, (World.cell?_setCell_other V _ _ _ (by simp)).trans b1, World.cell?_setCell_same V _ _ b2⟩, ⟨by simpa using g0, by simpa using g1, by simpa using g2⟩⟩
  · exact (World.cell?_setCell_other V _ _ _ (by intro h; injection h with h; omega)).trans a0
  · exact (World.cell?_setCell_other V _ _ _ (by intro h; injection h with h; omega)).trans a1
  · exact (World.cell?_setCell_other V _ _ _ (by intro h; injection h with h; omega)).trans a2

theorem take_snoc (s : ByteArray) (k : Nat) (h : k < s.size) : s.data.toList.take (k + 1) = s.data.toList.take k ++ [s[k]] := by
  rw [List.take_succ_eq_append_getElem (by simpa using h)]; rfl
def RSIs (l : List UInt8) (a b c : Int) (f : Nat) (r : Int) : Prop := RS.run l = ⟨a, b, c, f, r⟩
theorem RSIs.ok {l : List UInt8} {a b c : Int} {f : Nat} {r : Int} (h : RSIs l a b c f r) : ((0 ≤ a ∧ a < 1099511627776) ∧ (0 ≤ b ∧ b < 1099511627776) ∧ (0 ≤ c ∧ c < 1099511627776)) ∧ f ≤ 2 ∧ 0 ≤ r ∧ r ≤ 7 := by
  have := RS.run_ok l
  unfold RSIs at h
  rw [h] at this
  exact this
theorem RSIs.next {s : ByteArray} {k : Nat} {a b c : Int} {f : Nat} {r : Int} (h : RSIs (s.data.toList.take k) a b c f r) (hlt : k < s.size) {a' b' c' : Int} {f' : Nat} {r' : Int} (hs : RS.step ⟨a, b, c, f, r⟩ s[k] = ⟨a', b', c', f', r'⟩) :
    RSIs (s.data.toList.take (k + 1)) a' b' c' f' r' := by
  unfold RSIs at h ⊢
  rw [take_snoc s k hlt, RS.run_snoc, h, hs]

theorem ReadEnd.unique {l : List UInt8} {x y z k x' y' z' k' : Int} (h : ReadEnd l x y z k) (h' : ReadEnd l x' y' z' k') : x = x' ∧ y = y' ∧ z = z' ∧ k = k' := by
  rcases h' with ⟨t, g, rfl, rfl, ho, hg, hl, rfl⟩ | ⟨rfl, rfl, rfl, rfl, hn⟩
  · exact h.of_show ho hg hl
  · exact h.of_not hn

set_option maxRecDepth 100000 in
set_option maxHeartbeats 6400000 in
theorem refRead_is (s : ByteArray) (hl : s.size ≤ 1000) (x y z k : Int) (hE : ReadEnd s.data.toList x y z k) (w : World) :
    Calls Tryd.prog 19 #[.string s] w fun e w' => e = .returned (.tuple #[.agg #[.int .i64 x, .int .u32 y, .int .u8 z], .int .i64 k]) ∧ Later w w' := by
  have HE := Lib.hid hE
  clear hE
  go_enter Tryd.func19, Tryd.ntmps19
  go_wp2_with fail
  obtain ⟨W0, hW0⟩ : ∃ W0, (w.alloc (Obj.cells #[Value.int IntKind.i64 0, Value.int IntKind.u32 0, Value.int IntKind.u8 0] 27)).alloc (Obj.cells #[Value.int IntKind.i64 0, Value.int IntKind.i64 0, Value.int IntKind.i64 0] 3) = W0 := ⟨_, rfl⟩
  obtain ⟨N, hN⟩ : ∃ N, w.heap.size + 1 = N := ⟨_, rfl⟩
  obtain ⟨R, hR⟩ : ∃ R, w.heap.size = R := ⟨_, rfl⟩
  have hI0 : NInv w W0 R N 0 0 0 := by
    have hl0 : Later w W0 := by rw [← hW0]; exact ((Later.refl w).alloc _).alloc _
    subst hN hR
    refine ⟨hl0, ⟨Nat.le_refl _, by omega, by rw [← hW0]; simp⟩, ⟨?_, ?_, ?_⟩, ⟨?_, ?_, ?_⟩, ⟨?_, ?_, ?_⟩, ⟨?_, ?_, ?_⟩⟩ <;> rw [← hW0] <;> simp
  have hN2 : R < N := by omega
  rw [hW0, hN, hR]
  clear hW0 hN hR
  go_loopw [5, 6, 7] (fun v5 v6 v7 wr => ∃ (j : Nat) (a b c : Int) (f : Nat) (r : Int), j ≤ s.size ∧ RSIs (s.data.toList.take j) a b c f r ∧ v5 = .int .i64 f ∧ v6 = .int .i64 r ∧ v7 = .int .i64 j ∧ NInv w wr R N a b c) (fun _ _ v7 _ => s.size - (RowKit.intOf v7).toNat)
  case atStart => exact ⟨0, 0, 0, 0, 0, 0, by omega, rfl, rfl, rfl, rfl, hI0⟩
  case round =>
    obtain ⟨j, a, b, c, f, r, hj, hS, rfl, rfl, rfl, hI⟩ := hrel
    rename World => wk
    clear hI0
    have hok := hS.ok
    obtain ⟨⟨⟨ha0, ha1⟩, ⟨hb0, hb1⟩, hc0, hc1⟩, hf2, hr0, hr7⟩ := hok
    by_cases hlt : j < s.size
    · have hn0 : (0 : Int) ≤ (s[j].toNat : Int) := by omega
      have hn1 : (s[j].toNat : Int) ≤ 255 := by have := s[j].toNat_lt; omega
      have HS := Lib.hid hS
      have HI := Lib.hid hI
      clear hS hI
      have hcases : s[j].toNat = 46 ∨ (48 ≤ s[j].toNat ∧ s[j].toNat ≤ 57) ∨ s[j].toNat = 114 ∨ s[j].toNat = 119 ∨ s[j].toNat = 115 ∨ (¬ s[j].toNat = 46 ∧ ¬ (48 ≤ s[j].toNat ∧ s[j].toNat ≤ 57) ∧ ¬ s[j].toNat = 114 ∧ ¬ s[j].toNat = 119 ∧ ¬ s[j].toNat = 115) := by omega
      rcases hcases with hc | hc | hc | hc | hc | hc
      · have HSTEP := Lib.hid (show RS.step ⟨a, b, c, f, r⟩ s[j] = ⟨a, b, c, min (f + 1) 2, r⟩ by simp [RS.step, hc])
        go_wp2_with fail
        go_roundw
        case rel => exact ⟨j + 1, a, b, c, min (f + 1) 2, r, by omega, HS.out.next hlt HSTEP.out, by first | rfl | go_num | (congr 1; omega), rfl, by go_num, HI.out⟩
        case measure => simp [RowKit.intOf]; omega
      · have t1 : ((s[j].toNat : Int) == 46) = false := by simp; omega
        obtain ⟨n, hn⟩ : ∃ n : Int, (s[j].toNat : Int) = n := ⟨_, rfl⟩
        have n1 : 48 ≤ n := by omega
        have n2 : n ≤ 57 := by omega
        have hf : f = 0 ∨ f = 1 ∨ f = 2 := by omega
        rcases hf with rfl | rfl | rfl
        · have HSTEP := Lib.hid (show RS.step ⟨a, b, c, 0, r⟩ s[j] = ⟨(a * 10 + (n - 48)) % 1099511627776, b, c, 0, r⟩ by simp [RS.step, digR, hn, hc]; omega)
          obtain ⟨⟨h1, h2, h3⟩, h4, ⟨f0, f1, f2⟩, ⟨b0, b1, b2⟩, ⟨g0, g1, g2⟩⟩ := HI.out
          go_wp2_with fail
          go_region
          go_wp2_with fail
          go_roundw
          case rel => exact ⟨j + 1, _, b, c, 0, r, by omega, HS.out.next hlt HSTEP.out, rfl, rfl, by go_num, (HI.out.store0 _).later (Later.refl _).drew⟩
          case measure => simp [RowKit.intOf]; omega
        · have HSTEP := Lib.hid (show RS.step ⟨a, b, c, 1, r⟩ s[j] = ⟨a, (b * 10 + (n - 48)) % 1099511627776, c, 1, r⟩ by simp [RS.step, digR, hn, hc]; omega)
          obtain ⟨⟨h1, h2, h3⟩, h4, ⟨f0, f1, f2⟩, ⟨b0, b1, b2⟩, ⟨g0, g1, g2⟩⟩ := HI.out
          go_wp2_with fail
          go_region
          go_wp2_with fail
          go_roundw
          case rel => exact ⟨j + 1, a, _, c, 1, r, by omega, HS.out.next hlt HSTEP.out, rfl, rfl, by go_num, (HI.out.store1 _).later (Later.refl _).drew⟩
          case measure => simp [RowKit.intOf]; omega
        · have HSTEP := Lib.hid (show RS.step ⟨a, b, c, 2, r⟩ s[j] = ⟨a, b, (c * 10 + (n - 48)) % 1099511627776, 2, r⟩ by simp [RS.step, digR, hn, hc]; omega)
          obtain ⟨⟨h1, h2, h3⟩, h4, ⟨f0, f1, f2⟩, ⟨b0, b1, b2⟩, ⟨g0, g1, g2⟩⟩ := HI.out
          go_wp2_with fail
          go_region
          go_wp2_with fail
          go_roundw
          case rel => exact ⟨j + 1, a, b, _, 2, r, by omega, HS.out.next hlt HSTEP.out, rfl, rfl, by go_num, (HI.out.store2 _).later (Later.refl _).drew⟩
          case measure => simp [RowKit.intOf]; omega
      · have HSTEP := Lib.hid (show RS.step ⟨a, b, c, f, r⟩ s[j] = ⟨a, b, c, f, bits .or .i64 r 1⟩ by simp [RS.step, hc])
        go_wp2_with fail
        go_roundw
        case rel => exact ⟨j + 1, a, b, c, f, _, by omega, HS.out.next hlt HSTEP.out, rfl, rfl, by go_num, HI.out⟩
        case measure => simp [RowKit.intOf]; omega
      · have HSTEP := Lib.hid (show RS.step ⟨a, b, c, f, r⟩ s[j] = ⟨a, b, c, f, bits .or .i64 r 2⟩ by simp [RS.step, hc])
        go_wp2_with fail
        go_roundw
        case rel => exact ⟨j + 1, a, b, c, f, _, by omega, HS.out.next hlt HSTEP.out, rfl, rfl, by go_num, HI.out⟩
        case measure => simp [RowKit.intOf]; omega
      · have HSTEP := Lib.hid (show RS.step ⟨a, b, c, f, r⟩ s[j] = ⟨a, b, c, f, bits .or .i64 r 4⟩ by simp [RS.step, hc])
        go_wp2_with fail
        go_roundw
        case rel => exact ⟨j + 1, a, b, c, f, _, by omega, HS.out.next hlt HSTEP.out, rfl, rfl, by go_num, HI.out⟩
        case measure => simp [RowKit.intOf]; omega
      · obtain ⟨c1, c2, c3, c4, c5⟩ := hc
        have HSTEP := Lib.hid (show RS.step ⟨a, b, c, f, r⟩ s[j] = ⟨a, b, c, f, r⟩ by simp [RS.step, c1, c2, c3, c4, c5])
        have t1 : ((s[j].toNat : Int) == 46) = false := by simp; omega
        have t2 : ((s[j].toNat : Int) == 114) = false := by simp; omega
        have t3 : ((s[j].toNat : Int) == 119) = false := by simp; omega
        have t4 : ((s[j].toNat : Int) == 115) = false := by simp; omega
        have c2' : (s[j].toNat : Int) < 48 ∨ 57 < (s[j].toNat : Int) := by omega
        clear c1 c2 c3 c4 c5
        rcases c2' with c2' | c2'
        all_goals
          go_wp2_with fail
          go_roundw
          case rel => exact ⟨j + 1, a, b, c, f, r, by omega, HS.out.next hlt HSTEP.out, rfl, rfl, by go_num, HI.out⟩
          case measure => simp [RowKit.intOf]; omega
    · obtain rfl : j = s.size := by omega
      have hS' : RSIs s.data.toList a b c f r := by
        have e : s.data.toList.take s.size = s.data.toList := List.take_of_length_le (by simp)
        rw [e] at hS
        exact hS
      have HS := Lib.hid hS'
      clear hS hS' hlt hj
      obtain ⟨h1, ⟨h2, h3, h4⟩, ⟨a0, a1, a2⟩, ⟨f0, f1, f2⟩, ⟨b0, b1, b2⟩, ⟨g0, g1, g2⟩⟩ := hI
      by_cases hb : 4294967296 ≤ b
      · have hx := HE.out.unique (refEnd_great s.data.toList (by have h9 := HS.out; unfold RSIs at h9; rw [h9]; simp only; omega))
        obtain ⟨rfl, rfl, rfl, rfl⟩ := hx
        clear HE
        go_wp2_with fail
        refine bodyPost_ret (v := .tuple #[.agg #[.int .i64 0, .int .u32 0, .int .u8 0], .int .i64 7]) (by simp [results, Tryd.results19, go_sem, a0, a1, a2]) rfl ⟨rfl, ?_⟩
        exact ((h1.setCell _ _ h2).setCell _ _ h2).setCell _ _ h2
      · have hbu : IntKind.u32.wrap b = b := IntWalk.u32_in _ (by omega)
        have hru : IntKind.u8.wrap r = r := IntWalk.u8_in _ (by omega)
        go_wp2_with fail
        go_region
        obtain ⟨V, hV⟩ : ∃ V, (wk.alloc (Obj.cells #[Value.int IntKind.i64 a, Value.int IntKind.u32 b, Value.int IntKind.u8 r] 27)).drew = V := ⟨_, rfl⟩
        obtain ⟨Hb, hHb⟩ : ∃ Hb, wk.heap.size = Hb := ⟨_, rfl⟩
        have hbV : Later wk V := by rw [← hV]; exact ((Later.refl wk).alloc _).drew
        have d0 : V.cell? ⟨Hb, 0, none⟩ = some (.int .i64 a) := by rw [← hV, ← hHb]; simp
        have d1 : V.cell? ⟨Hb, 1, none⟩ = some (.int .u32 b) := by rw [← hV, ← hHb]; simp
        have d2 : V.cell? ⟨Hb, 2, none⟩ = some (.int .u8 r) := by rw [← hV, ← hHb]; simp
        have hsV : Hb < V.heap.size := by rw [← hV, ← hHb]; simp
        have hRk : R < wk.heap.size := by omega
        have hRV : R < V.heap.size := Nat.lt_of_lt_of_le hRk hbV.size
        have a0 := cell_at hbV a0 hRk
        have f0 := frz_at hbV f0 hRk
        have a1 := cell_at hbV a1 hRk
        have f1 := frz_at hbV f1 hRk
        have a2 := cell_at hbV a2 hRk
        have f2 := frz_at hbV f2 hRk
        have hl1 := h1.trans hbV
        rw [hV, hHb]
        clear hV hHb hbV b0 b1 b2 g0 g1 g2 h1 h3 h4 hRk hbu hru
        cases ho : okH a b r
        · have hx := HE.out.unique (refEnd_bad s.data.toList (by have h9 := HS.out; unfold RSIs at h9; rw [h9]; exact ho))
          obtain ⟨rfl, rfl, rfl, rfl⟩ := hx
          have HO := Lib.hid ho
          clear HE ho
          go_wp2_with fail
          refine (refShow_no a b r _ hr0 (by omega) HO.out).mono ?_
          rintro e w5 ⟨rfl, hb5⟩
          have a0 := cell_at hb5 a0 hRV
          have f0 := frz_at hb5 f0 hRV
          have a1 := cell_at hb5 a1 hRV
          have f1 := frz_at hb5 f1 hRV
          have a2 := cell_at hb5 a2 hRV
          have f2 := frz_at hb5 f2 hRV
          have h9 := hl1.trans hb5
          clear hb5 d0 d1 d2
          go_wp2_with fail
          refine bodyPost_ret (v := .tuple #[.agg #[.int .i64 0, .int .u32 0, .int .u8 0], .int .i64 7]) (by simp [results, Tryd.results19, go_sem, a0, a1, a2]) rfl ⟨rfl, ?_⟩
          exact ((h9.setCell _ _ h2).setCell _ _ h2).setCell _ _ h2
        · have hsh : ∃ T : ByteArray, T = ⟨(showH a.toNat b.toNat r).toArray⟩ ∧ ∀ W, Calls Tryd.prog 26 #[.agg #[.int .i64 a, .int .u32 b, .int .u8 r]] W fun e w' => e = .returned (.tuple #[.string T, .int .i64 0]) ∧ Later W w' := by
            obtain ⟨an, rfl⟩ : ∃ n : Nat, a = n := ⟨a.toNat, by omega⟩
            obtain ⟨bn, rfl⟩ : ∃ n : Nat, b = n := ⟨b.toNat, by omega⟩
            exact ⟨_, rfl, fun W => refShow_yes an bn r W ho (by omega)⟩
          obtain ⟨T, hT, hsh⟩ := hsh
          by_cases hq : s.data.toList = showH a.toNat b.toNat r
          · have hx := HE.out.unique (.inl ⟨a.toNat, b.toNat, (Int.toNat_of_nonneg ha0).symm, (Int.toNat_of_nonneg hb0).symm, by rw [Int.toNat_of_nonneg ha0, Int.toNat_of_nonneg hb0]; exact ho, by omega, hq, rfl⟩)
            obtain ⟨rfl, rfl, rfl, rfl⟩ := hx
            obtain rfl : T = s := by
              rw [hT, ← hq]
            have HSH := Lib.hid hsh
            clear hsh hT hq ho HE
            go_wp2_with fail
            refine (HSH.out _).mono ?_
            rintro e w5 ⟨rfl, hb5⟩
            have a0 := cell_at hb5 a0 hRV
            have f0 := frz_at hb5 f0 hRV
            have a1 := cell_at hb5 a1 hRV
            have f1 := frz_at hb5 f1 hRV
            have a2 := cell_at hb5 a2 hRV
            have f2 := frz_at hb5 f2 hRV
            have d0 := cell_at hb5 d0 hsV
            have d1 := cell_at hb5 d1 hsV
            have d2 := cell_at hb5 d2 hsV
            have h9 := hl1.trans hb5
            clear hb5
            go_wp2_with fail
            refine bodyPost_ret (v := .tuple #[.agg #[.int .i64 x, .int .u32 y, .int .u8 z], .int .i64 0]) (by simp [results, Tryd.results19, go_sem, a0, a1, a2]) rfl ⟨rfl, ?_⟩
            exact ((h9.setCell _ _ h2).setCell _ _ h2).setCell _ _ h2
          · have hx := HE.out.unique (refEnd_other s.data.toList (by have h9 := HS.out; unfold RSIs at h9; rw [h9]; exact hq))
            obtain ⟨rfl, rfl, rfl, rfl⟩ := hx
            have c4 : (T.toList == s.toList) = false := by
              rw [beq_eq_false_iff_ne, ByteArray.toList_eq, ByteArray.toList_eq, hT]
              simpa using fun h => hq h.symm
            have c5 : (T.toList != s.toList) = true := by rw [bne, c4]; rfl
            have HSH := Lib.hid hsh
            clear hsh hT hq ho HE
            go_wp2_with fail
            refine (HSH.out _).mono ?_
            rintro e w5 ⟨rfl, hb5⟩
            have a0 := cell_at hb5 a0 hRV
            have f0 := frz_at hb5 f0 hRV
            have a1 := cell_at hb5 a1 hRV
            have f1 := frz_at hb5 f1 hRV
            have a2 := cell_at hb5 a2 hRV
            have f2 := frz_at hb5 f2 hRV
            have h9 := hl1.trans hb5
            clear hb5 d0 d1 d2
            go_wp2_with fail
            refine bodyPost_ret (v := .tuple #[.agg #[.int .i64 0, .int .u32 0, .int .u8 0], .int .i64 7]) (by simp [results, Tryd.results19, go_sem, a0, a1, a2]) rfl ⟨rfl, ?_⟩
            exact ((h9.setCell _ _ h2).setCell _ _ h2).setCell _ _ h2
end Go.Proofs.YtpfnccjfmbecfaaDoor
