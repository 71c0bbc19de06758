/-
  The text of a handle: the program's Show. Conditions: the handle is valid or the numbers are within their types; the table of powers of ten reads as laid.
-/
import Derived.Test.YtpfnccjfmbecfaaDoorG
import Derived.Lib.QuietBelow
import Derived.Deep.RegionHeld3
import Derived.LoopTactic
namespace Go.Proofs.YtpfnccjfmbecfaaDoor
open Go.RowKit Go.Sort Go.Lib

theorem var_later {w w' : World} {n : String} {cs : Array Value} (hl : Later w w') (h : w.var? Tryd.prog n = some cs) : w'.var? Tryd.prog n = some cs := by
  have h0 := h
  unfold World.var? at h0
  rcases hg : Tryd.prog.globalNamed n with _ | g
  · rw [hg] at h0; cases h0
  · rw [hg, Option.bind_some] at h0
    have hlt : g < w.heap.size := by
      rcases Nat.lt_or_ge g w.heap.size with hlt | hge
      · exact hlt
      · rw [Array.getElem?_eq_none hge] at h0; cases h0
    exact var?_below hl hg hlt h
theorem Tab.later {w w' : World} (h : Tab w) (hl : Later w w') : Tab w' := var_later hl h
theorem quiet_later {f : FuncId} {args : Array Value} {w : World} {d : Nat} {os : Array Obj} {v : Value}
    (h : Calls Tryd.prog f args (grow (redrawn w d) os) fun e w' => e = .returned v ∧ Later (grow (redrawn w d) os) w') : Calls Tryd.prog f args (grow (redrawn w d) os) fun e w'' => e = .returned v ∧ ∃ p : Regrown, w'' = grow (redrawn w p.d) p.os :=
  Calls.regrown_of h

/-- the letters of the rights -/
def lettersR (r : Int) : List UInt8 := (if r % 2 = 1 then [114] else []) ++ ((if r / 2 % 2 = 1 then [119] else []) ++ (if r / 4 % 2 = 1 then [115] else []))
/-- the text of a handle -/
def showH (t g : Nat) (r : Int) : List UInt8 := Lib.decDigits t ++ (46 :: (Lib.decDigits g ++ (46 :: lettersR r)))

theorem letters_is (w : World) : Calls Tryd.prog 24 #[] w fun e w' => e = .returned (.agg #[.string ⟨#[114]⟩, .string ⟨#[119]⟩, .string ⟨#[115]⟩]) ∧ Later w w' := by
  go_enter Tryd.func24, Tryd.ntmps24
  go_wp2_with fail
  exact bodyPost_ret (v := .agg #[.string ⟨#[114]⟩, .string ⟨#[119]⟩, .string ⟨#[115]⟩]) (by simp [results, Tryd.results24, go_sem]) rfl ⟨rfl, by repeat (first | exact Later.refl _ | assumption | apply Later.alloc | apply Later.drew | apply Later.drewN | refine Later.trans ?_ (by assumption))⟩
theorem join3 (L : Nat) (a b c : List UInt8) (V : World) (h0 : V.cell? ⟨L, 0, none⟩ = some (.string ⟨a.toArray⟩)) (h1 : V.cell? ⟨L, 1, none⟩ = some (.string ⟨b.toArray⟩)) (h2 : V.cell? ⟨L, 2, none⟩ = some (.string ⟨c.toArray⟩)) (hL : L < V.heap.size) (hlen : a.length + b.length + c.length ≤ 1000) :
    Calls Tryd.prog 34 #[.slice (some ⟨L, 0, none⟩) 3 3, .string ⟨#[46]⟩] V fun e w' => e = .returned (.string ⟨(a ++ (46 :: (b ++ (46 :: c)))).toArray⟩) ∧ Later V w' := by
  have hj : Lib.join ([(⟨a.toArray⟩ : ByteArray), ⟨b.toArray⟩, ⟨c.toArray⟩].map (·.data.toList)) (⟨#[46]⟩ : ByteArray).data.toList = a ++ (46 :: (b ++ (46 :: c))) := by simp [Lib.join]
  have h := Tryd.strings_Join L 0 3 [⟨a.toArray⟩, ⟨b.toArray⟩, ⟨c.toArray⟩] ⟨#[46]⟩ V (fun j x hx => by
    rcases j with _ | _ | _ | j
    · simp at hx; subst hx; exact h0
    · simp at hx; subst hx; exact h1
    · simp at hx; subst hx; exact h2
    · simp at hx) hL (by simp) (by simp) (by rw [hj]; simp; omega)
  rw [hj] at h
  exact h

def lettersK (r : Int) (k : Nat) : List UInt8 := (if 0 < k ∧ r % 2 = 1 then [114] else []) ++ ((if 1 < k ∧ r / 2 % 2 = 1 then [119] else []) ++ (if 2 < k ∧ r / 4 % 2 = 1 then [115] else []))
theorem lettersK_len (r : Int) (k : Nat) : (lettersK r k).length ≤ 3 := by
  unfold lettersK
  simp only [List.length_append]
  repeat' split <;> simp
/-- what the loop of text keeps: the handle's box, and the three texts -/
def TInv (w V : World) (B L : Nat) (x y r : Int) (dt dg acc : List UInt8) : Prop :=
  Later w V ∧ (B < L ∧ w.heap.size ≤ L ∧ L < V.heap.size) ∧ (V.cell? ⟨B, 0, none⟩ = some (.int .i64 x) ∧ V.cell? ⟨B, 1, none⟩ = some (.int .u32 y) ∧ V.cell? ⟨B, 2, none⟩ = some (.int .u8 r)) ∧
  (V.cell? ⟨L, 0, none⟩ = some (.string ⟨dt.toArray⟩) ∧ V.cell? ⟨L, 1, none⟩ = some (.string ⟨dg.toArray⟩) ∧ V.cell? ⟨L, 2, none⟩ = some (.string ⟨acc.toArray⟩)) ∧ V.frozen? ⟨L, 2, none⟩ = false
theorem TInv.later {w V U : World} {B L : Nat} {x y r : Int} {dt dg acc : List UInt8} (h : TInv w V B L x y r dt dg acc) (hl : Later V U) : TInv w U B L x y r dt dg acc := by
  obtain ⟨h1, ⟨h2, h3, h4⟩, ⟨a0, a1, a2⟩, ⟨b0, b1, b2⟩, h5⟩ := h
  have hB : B < V.heap.size := Nat.lt_trans h2 h4
  exact ⟨h1.trans hl, ⟨h2, h3, Nat.lt_of_lt_of_le h4 hl.size⟩, ⟨cell_at hl a0 hB, cell_at hl a1 hB, cell_at hl a2 hB⟩, ⟨cell_at hl b0 h4, cell_at hl b1 h4, cell_at hl b2 h4⟩, (hl.reads.2.1 L 2 h4).trans h5⟩
theorem TInv.store {w V : World} {B L : Nat} {x y r : Int} {dt dg acc : List UInt8} (h : TInv w V B L x y r dt dg acc) (c : UInt8) (A : ByteArray) (hA : A = ⟨acc.toArray⟩) : TInv w (V.setCell ⟨L, 2, none⟩ (.string (A ++ ⟨#[c]⟩))) B L x y r dt dg (acc ++ [c]) := by
  obtain ⟨h1, ⟨h2, h3, h4⟩, ⟨a0, a1, a2⟩, ⟨b0, b1, b2⟩, h5⟩ := h
  have hne : B ≠ L := by omega
  have e : A ++ ⟨#[c]⟩ = (⟨(acc ++ [c]).toArray⟩ : ByteArray) := by rw [hA]; exact str_app acc [c]
  rw [e]
  refine ⟨h1.setCell _ _ h3, ⟨h2, h3, by simpa using h4⟩, ⟨?_, ?_, ?_⟩, ⟨?_, ?_, ?_⟩, ?_⟩
  · exact (World.cell?_setCell_other V _ _ _ (by intro h; injection h with h; omega)).trans a0
  · exact (World.cell?_setCell_other V _ _ _ (by intro h; injection h with h; omega)).trans a1
  · exact (World.cell?_setCell_other V _ _ _ (by intro h; injection h with h; omega)).trans a2
  · exact (World.cell?_setCell_other V _ _ _ (by simp)).trans b0
  · exact (World.cell?_setCell_other V _ _ _ (by simp)).trans b1
  · exact World.cell?_setCell_same V _ _ b2
  · simpa using h5

set_option maxRecDepth 100000 in
set_option maxHeartbeats 6400000 in
theorem text_is (t g : Nat) (r : Int) (w : World) (ht : t ≤ 16) (hg : g ≤ 4294967295) (r1 : 1 ≤ r) (r7 : r ≤ 7) (htab : Tab w) :
    Calls Tryd.prog 20 #[.agg #[.int .i64 t, .int .u32 g, .int .u8 r]] w fun e w' => e = .returned (.string ⟨(showH t g r).toArray⟩) ∧ Later w w' := by
  have hI : ∀ w1 : World, Calls Tryd.prog 32 #[.int .i64 t] w1 fun e w' => e = .returned (.string ⟨(Lib.decDigits t).toArray⟩) ∧ w' = w1 := fun w1 => Tryd.strconv_Itoa_small t (by omega) w1
  have hF : ∀ w1 : World, Tab w1 → Calls Tryd.prog 33 #[.int .u64 g, .int .i64 10] w1 fun e w' => e = .returned (.string ⟨(Lib.decDigits g).toArray⟩) ∧ Later w1 w' := fun w1 h1 => formatUint_any g (by omega) w1 h1
  obtain ⟨x, hx⟩ : ∃ x : Int, x = (t : Int) := ⟨_, rfl⟩
  obtain ⟨y, hy⟩ : ∃ y : Int, y = (g : Int) := ⟨_, rfl⟩
  have y0 : 0 ≤ y := by omega
  have y1 : y ≤ 4294967295 := by omega
  rw [← hx, ← hy]
  rw [← hx] at hI
  rw [← hy] at hF
  have hwr : IntKind.u64.wrap y = y := by rw [IntKind.wrap_u64]; omega
  have HWR := Lib.hid hwr
  have HLEN := Lib.hid (show (Lib.decDigits t).length + (Lib.decDigits g).length ≤ 40 by have h1 := digits_le t (by omega); have h2 := digits_le g (by omega); omega)
  clear ht hg hx hy hwr
  go_enter Tryd.func20, Tryd.ntmps20
  go_wp2_with fail
  obtain ⟨W, hW⟩ : ∃ W, w.alloc (Obj.cells #[Value.int IntKind.i64 x, Value.int IntKind.u32 y, Value.int IntKind.u8 r] 48) = W := ⟨_, rfl⟩
  have k0 : W.cell? ⟨w.heap.size, 0, none⟩ = some (.int .i64 x) := by rw [← hW]; simp
  have k1 : W.cell? ⟨w.heap.size, 1, none⟩ = some (.int .u32 y) := by rw [← hW]; simp
  have k2 : W.cell? ⟨w.heap.size, 2, none⟩ = some (.int .u8 r) := by rw [← hW]; simp
  have hlW : Later w W := by rw [← hW]; exact (Later.refl w).alloc _
  have hWs : w.heap.size < W.heap.size := by rw [← hW]; simp
  have hTW : Tab W := htab.later hlW
  rw [hW]
  clear hW htab
  have HF : ∀ w1 : World, (Later W w1 ∧ w1.cell? ⟨w.heap.size, 0, none⟩ = some (.int .i64 x) ∧ w1.cell? ⟨w.heap.size, 1, none⟩ = some (.int .u32 y)) → Calls Tryd.prog 33 #[.int .u64 (IntKind.u64.wrap y), .int .i64 10] w1 fun e w' => e = .returned (.string ⟨(Lib.decDigits g).toArray⟩) ∧ (Later W w' ∧ w'.cell? ⟨w.heap.size, 0, none⟩ = some (.int .i64 x) ∧ w'.cell? ⟨w.heap.size, 1, none⟩ = some (.int .u32 y)) := fun w1 h1 => by
    rw [HWR.out]
    exact (hF w1 (hTW.later h1.1)).mono fun e w' h => ⟨h.1, h1.1.trans h.2, cell_at h.2 h1.2.1 (Nat.lt_of_lt_of_le hWs h1.1.size), cell_at h.2 h1.2.2 (Nat.lt_of_lt_of_le hWs h1.1.size)⟩
  have HD : ∀ w1 : World, (Later W w1 ∧ w1.cell? ⟨w.heap.size, 0, none⟩ = some (.int .i64 x) ∧ w1.cell? ⟨w.heap.size, 1, none⟩ = some (.int .u32 y)) → (Later W w1.drew ∧ w1.drew.cell? ⟨w.heap.size, 0, none⟩ = some (.int .i64 x) ∧ w1.drew.cell? ⟨w.heap.size, 1, none⟩ = some (.int .u32 y)) := fun w1 h => ⟨h.1.drew, h.2⟩
  have HA : ∀ (w1 : World) (o : Obj), (Later W w1 ∧ w1.cell? ⟨w.heap.size, 0, none⟩ = some (.int .i64 x) ∧ w1.cell? ⟨w.heap.size, 1, none⟩ = some (.int .u32 y)) → (Later W (w1.alloc o) ∧ (w1.alloc o).cell? ⟨w.heap.size, 0, none⟩ = some (.int .i64 x) ∧ (w1.alloc o).cell? ⟨w.heap.size, 1, none⟩ = some (.int .u32 y)) := fun w1 o h => ⟨h.1.alloc o, cell_at ((Later.refl w1).alloc o) h.2.1 (Nat.lt_of_lt_of_le hWs h.1.size), cell_at ((Later.refl w1).alloc o) h.2.2 (Nat.lt_of_lt_of_le hWs h.1.size)⟩
  have HW : Later W W := Later.refl W
  clear hF
  go_region_held3 (fun w' => Later W w' ∧ w'.cell? ⟨w.heap.size, 0, none⟩ = some (.int .i64 x) ∧ w'.cell? ⟨w.heap.size, 1, none⟩ = some (.int .u32 y)) (first | assumption | exact ⟨HW, k0, k1⟩ | (refine HD _ ?_; assumption) | exact HD _ ⟨HW, k0, k1⟩ | (refine HA _ _ ?_; first | assumption | exact ⟨HW, k0, k1⟩ | exact HD _ ⟨HW, k0, k1⟩)) (first | (go_at_call 32; refine (hI _).mono ?_; rintro e w' ⟨rfl, rfl⟩) | (go_at_call 33; refine (HF _ ?_).mono ?_; (first | assumption | exact ⟨HW, k0, k1⟩ | (refine HD _ ?_; assumption) | exact HD _ ⟨HW, k0, k1⟩); rintro e w' ⟨rfl, hS⟩))
  rename_i hHeld
  have LW := hS.1
  have m0 := hS.2.1
  have m1 := hS.2.2
  have m2 := cell_at hS.1 k2 hWs
  obtain ⟨L, hL⟩ : ∃ L, w'.heap.size = L := ⟨_, rfl⟩
  obtain ⟨V, hV⟩ : ∃ V, w'.alloc (Obj.cells #[Value.string { data := (Lib.decDigits t).toArray }, Value.string { data := (Lib.decDigits g).toArray }, Value.string { data := #[] }] 9) = V := ⟨_, rfl⟩
  have hwL : w.heap.size < L := by rw [← hL]; exact Nat.lt_of_lt_of_le hWs LW.size
  have v2 : V.cell? ⟨w.heap.size, 2, none⟩ = some (.int .u8 r) := by rw [← hV]; exact cell_at ((Later.refl w').alloc _) m2 (by rw [hL]; exact hwL)
  have v0 : V.cell? ⟨w.heap.size, 0, none⟩ = some (.int .i64 x) := by rw [← hV]; exact cell_at ((Later.refl w').alloc _) m0 (by rw [hL]; exact hwL)
  have v1 : V.cell? ⟨w.heap.size, 1, none⟩ = some (.int .u32 y) := by rw [← hV]; exact cell_at ((Later.refl w').alloc _) m1 (by rw [hL]; exact hwL)
  have s0 : V.cell? ⟨L, 0, none⟩ = some (.string ⟨(Lib.decDigits t).toArray⟩) := by rw [← hV, ← hL]; simp
  have s1 : V.cell? ⟨L, 1, none⟩ = some (.string ⟨(Lib.decDigits g).toArray⟩) := by rw [← hV, ← hL]; simp
  have s2 : V.cell? ⟨L, 2, none⟩ = some (.string ⟨#[]⟩) := by rw [← hV, ← hL]; simp
  have sf : V.frozen? ⟨L, 2, none⟩ = false := by rw [← hV, ← hL]; simp
  have hLV : L < V.heap.size := by rw [← hV, ← hL]; simp
  have hlV : Later w V := by rw [← hV]; exact (hlW.trans LW).alloc _
  rw [hV, hL]
  clear hHeld hS HW LW m0 m1 m2 hV hL HWR hTW k0 k1 k2 hlW hWs
  go_wp2_with fail
  refine (letters_is _).mono ?_
  rintro e w2 ⟨rfl, hb2⟩
  go_wp2_with fail
  have hI3 : TInv w w2 w.heap.size L x y r (Lib.decDigits t) (Lib.decDigits g) (lettersK r 0) := TInv.later ⟨hlV, ⟨hwL, Nat.le_of_lt hwL, hLV⟩, ⟨v0, v1, v2⟩, ⟨s0, s1, by simpa [lettersK] using s2⟩, sf⟩ hb2
  have HR := Lib.hid (And.intro r1 r7)
  have ix0 : ∀ W : World, (Instr.index 56 (.agg #[.string ⟨#[114]⟩, .string ⟨#[119]⟩, .string ⟨#[115]⟩]) (.int .i64 0)).run Tryd.prog W = .ok (.string ⟨#[114]⟩) W := fun W => by kernel_rfl
  have ix1 : ∀ W : World, (Instr.index 56 (.agg #[.string ⟨#[114]⟩, .string ⟨#[119]⟩, .string ⟨#[115]⟩]) (.int .i64 1)).run Tryd.prog W = .ok (.string ⟨#[119]⟩) W := fun W => by kernel_rfl
  have ix2 : ∀ W : World, (Instr.index 56 (.agg #[.string ⟨#[114]⟩, .string ⟨#[119]⟩, .string ⟨#[115]⟩]) (.int .i64 2)).run Tryd.prog W = .ok (.string ⟨#[115]⟩) W := fun W => by kernel_rfl
  have mixed : Tryd.prog.follows .mixedOrders = true := by kernel_rfl
  clear hb2 hlV hwL hLV v0 v1 v2 s0 s1 s2 sf r1 r7 y0 y1
  go_loopw [17] (fun i wr => ∃ k : Nat, k ≤ 3 ∧ i = .int .i64 k ∧ TInv w wr w.heap.size L x y r (Lib.decDigits t) (Lib.decDigits g) (lettersK r k)) (fun i _ => 3 - (RowKit.intOf i).toNat)
  case atStart => exact ⟨0, by omega, rfl, hI3⟩
  case round =>
    obtain ⟨k, hk, rfl, hI⟩ := hrel
    rename World => wk
    clear hI3
    have hI' := hI
    obtain ⟨h1, ⟨h2, h3, h4⟩, ⟨a0, a1, a2⟩, ⟨b0, b1, b2⟩, h5⟩ := hI'
    have hk' : k = 0 ∨ k = 1 ∨ k = 2 ∨ k = 3 := by omega
    rcases hk' with rfl | rfl | rfl | rfl
    · obtain ⟨p, hp⟩ : ∃ p, (bits .and .u8 r 1 == 1) = p := ⟨_, rfl⟩
      have hbit := has_bit r 1 HR.out (by omega)
      have HP := Lib.hid hp
      have HPB := Lib.hid (show decide (r % 2 = 1) = p by rw [hbit] at hp; simpa using hp)
      clear hp hbit
      obtain ⟨A, hA⟩ : ∃ A, A = (⟨(lettersK r 0).toArray⟩ : ByteArray) := ⟨_, rfl⟩
      have hcat : ¬ 9223372036854775807 < A.size + ByteArray.size ⟨#[114]⟩ := by
        have : A.size ≤ 3 := by
          rw [hA]
          show (lettersK r 0).length ≤ 3
          unfold lettersK
          simp only [List.length_append]
          repeat' split <;> simp
        have e1 : ByteArray.size ⟨#[114]⟩ = 1 := rfl
        omega
      rw [← hA] at b2
      have HA := Lib.hid hA
      clear hA
      cases p
      · have c31 := fun d os => quiet_later (has_is x y r 1 false HP.out (grow (redrawn wk d) os))
        have z0 := cell_regrown a0
        have z1 := cell_regrown a1
        have z2 := cell_regrown a2
        go_wp2_with fail
        refine wp_region_quiet_below mixed (by kernel_rfl) ?_
        repeat (quiet_step (exact c31 _ _))
        refine wpQuiet_nil ?_
        intro _ hw'
        obtain ⟨⟨dq, osq⟩, hw''⟩ := hw'
        subst hw''
        have hJ := hI.later (below_regrown wk dq osq)
        have e2 := cell_regrown b2 dq osq
        have e5 : (grow (redrawn wk dq) osq).frozen? ⟨L, 2, none⟩ = false := hJ.2.2.2.2
        clear z0 z1 z2 c31
        generalize grow (redrawn wk dq) osq = U at *
        go_wp2_with fail
        go_roundw
        case rel =>
          refine ⟨1, by omega, rfl, ?_⟩
          have e : lettersK r 1 = lettersK r 0 := by
            have := of_decide_eq_false HPB.out
            simp [lettersK, this]
          rw [e]
          exact hJ
        case measure => simp [RowKit.intOf]
      · have c31 := fun d os => quiet_later (has_is x y r 1 true HP.out (grow (redrawn wk d) os))
        have z0 := cell_regrown a0
        have z1 := cell_regrown a1
        have z2 := cell_regrown a2
        go_wp2_with fail
        refine wp_region_quiet_below mixed (by kernel_rfl) ?_
        repeat (quiet_step (exact c31 _ _))
        refine wpQuiet_nil ?_
        intro _ hw'
        obtain ⟨⟨dq, osq⟩, hw''⟩ := hw'
        subst hw''
        have hJ := hI.later (below_regrown wk dq osq)
        have e2 := cell_regrown b2 dq osq
        have e5 : (grow (redrawn wk dq) osq).frozen? ⟨L, 2, none⟩ = false := hJ.2.2.2.2
        clear z0 z1 z2 c31
        generalize grow (redrawn wk dq) osq = U at *
        go_wp2_with fail
        go_roundw
        case rel =>
          refine ⟨1, by omega, rfl, ?_⟩
          have e : lettersK r 1 = lettersK r 0 ++ [114] := by
            have := of_decide_eq_true HPB.out
            simp [lettersK, this]
          rw [e]
          exact hJ.store 114 A HA.out
        case measure => simp [RowKit.intOf]
    · obtain ⟨p, hp⟩ : ∃ p, (bits .and .u8 r 2 == 2) = p := ⟨_, rfl⟩
      have hbit := has_bit r 2 HR.out (by omega)
      have HP := Lib.hid hp
      have HPB := Lib.hid (show decide (r / 2 % 2 = 1) = p by rw [hbit] at hp; simpa using hp)
      clear hp hbit
      obtain ⟨A, hA⟩ : ∃ A, A = (⟨(lettersK r 1).toArray⟩ : ByteArray) := ⟨_, rfl⟩
      have hcat : ¬ 9223372036854775807 < A.size + ByteArray.size ⟨#[119]⟩ := by
        have : A.size ≤ 3 := by
          rw [hA]
          show (lettersK r 1).length ≤ 3
          unfold lettersK
          simp only [List.length_append]
          repeat' split <;> simp
        have e1 : ByteArray.size ⟨#[119]⟩ = 1 := rfl
        omega
      rw [← hA] at b2
      have HA := Lib.hid hA
      clear hA
      cases p
      · have c31 := fun d os => quiet_later (has_is x y r 2 false HP.out (grow (redrawn wk d) os))
        have z0 := cell_regrown a0
        have z1 := cell_regrown a1
        have z2 := cell_regrown a2
        go_wp2_with fail
        refine wp_region_quiet_below mixed (by kernel_rfl) ?_
        repeat (quiet_step (exact c31 _ _))
        refine wpQuiet_nil ?_
        intro _ hw'
        obtain ⟨⟨dq, osq⟩, hw''⟩ := hw'
        subst hw''
        have hJ := hI.later (below_regrown wk dq osq)
        have e2 := cell_regrown b2 dq osq
        have e5 : (grow (redrawn wk dq) osq).frozen? ⟨L, 2, none⟩ = false := hJ.2.2.2.2
        clear z0 z1 z2 c31
        generalize grow (redrawn wk dq) osq = U at *
        go_wp2_with fail
        go_roundw
        case rel =>
          refine ⟨2, by omega, rfl, ?_⟩
          have e : lettersK r 2 = lettersK r 1 := by
            have := of_decide_eq_false HPB.out
            simp [lettersK, this]
          rw [e]
          exact hJ
        case measure => simp [RowKit.intOf]
      · have c31 := fun d os => quiet_later (has_is x y r 2 true HP.out (grow (redrawn wk d) os))
        have z0 := cell_regrown a0
        have z1 := cell_regrown a1
        have z2 := cell_regrown a2
        go_wp2_with fail
        refine wp_region_quiet_below mixed (by kernel_rfl) ?_
        repeat (quiet_step (exact c31 _ _))
        refine wpQuiet_nil ?_
        intro _ hw'
        obtain ⟨⟨dq, osq⟩, hw''⟩ := hw'
        subst hw''
        have hJ := hI.later (below_regrown wk dq osq)
        have e2 := cell_regrown b2 dq osq
        have e5 : (grow (redrawn wk dq) osq).frozen? ⟨L, 2, none⟩ = false := hJ.2.2.2.2
        clear z0 z1 z2 c31
        generalize grow (redrawn wk dq) osq = U at *
        go_wp2_with fail
        go_roundw
        case rel =>
          refine ⟨2, by omega, rfl, ?_⟩
          have e : lettersK r 2 = lettersK r 1 ++ [119] := by
            have := of_decide_eq_true HPB.out
            simp [lettersK, this]
          rw [e]
          exact hJ.store 119 A HA.out
        case measure => simp [RowKit.intOf]
    · obtain ⟨p, hp⟩ : ∃ p, (bits .and .u8 r 4 == 4) = p := ⟨_, rfl⟩
      have hbit := has_bit r 4 HR.out (by omega)
      have HP := Lib.hid hp
      have HPB := Lib.hid (show decide (r / 4 % 2 = 1) = p by rw [hbit] at hp; simpa using hp)
      clear hp hbit
      obtain ⟨A, hA⟩ : ∃ A, A = (⟨(lettersK r 2).toArray⟩ : ByteArray) := ⟨_, rfl⟩
      have hcat : ¬ 9223372036854775807 < A.size + ByteArray.size ⟨#[115]⟩ := by
        have : A.size ≤ 3 := by
          rw [hA]
          show (lettersK r 2).length ≤ 3
          unfold lettersK
          simp only [List.length_append]
          repeat' split <;> simp
        have e1 : ByteArray.size ⟨#[115]⟩ = 1 := rfl
        omega
      rw [← hA] at b2
      have HA := Lib.hid hA
      clear hA
      cases p
      · have c31 := fun d os => quiet_later (has_is x y r 4 false HP.out (grow (redrawn wk d) os))
        have z0 := cell_regrown a0
        have z1 := cell_regrown a1
        have z2 := cell_regrown a2
        go_wp2_with fail
        refine wp_region_quiet_below mixed (by kernel_rfl) ?_
        repeat (quiet_step (exact c31 _ _))
        refine wpQuiet_nil ?_
        intro _ hw'
        obtain ⟨⟨dq, osq⟩, hw''⟩ := hw'
        subst hw''
        have hJ := hI.later (below_regrown wk dq osq)
        have e2 := cell_regrown b2 dq osq
        have e5 : (grow (redrawn wk dq) osq).frozen? ⟨L, 2, none⟩ = false := hJ.2.2.2.2
        clear z0 z1 z2 c31
        generalize grow (redrawn wk dq) osq = U at *
        go_wp2_with fail
        go_roundw
        case rel =>
          refine ⟨3, by omega, rfl, ?_⟩
          have e : lettersK r 3 = lettersK r 2 := by
            have := of_decide_eq_false HPB.out
            simp [lettersK, this]
          rw [e]
          exact hJ
        case measure => simp [RowKit.intOf]
      · have c31 := fun d os => quiet_later (has_is x y r 4 true HP.out (grow (redrawn wk d) os))
        have z0 := cell_regrown a0
        have z1 := cell_regrown a1
        have z2 := cell_regrown a2
        go_wp2_with fail
        refine wp_region_quiet_below mixed (by kernel_rfl) ?_
        repeat (quiet_step (exact c31 _ _))
        refine wpQuiet_nil ?_
        intro _ hw'
        obtain ⟨⟨dq, osq⟩, hw''⟩ := hw'
        subst hw''
        have hJ := hI.later (below_regrown wk dq osq)
        have e2 := cell_regrown b2 dq osq
        have e5 : (grow (redrawn wk dq) osq).frozen? ⟨L, 2, none⟩ = false := hJ.2.2.2.2
        clear z0 z1 z2 c31
        generalize grow (redrawn wk dq) osq = U at *
        go_wp2_with fail
        go_roundw
        case rel =>
          refine ⟨3, by omega, rfl, ?_⟩
          have e : lettersK r 3 = lettersK r 2 ++ [115] := by
            have := of_decide_eq_true HPB.out
            simp [lettersK, this]
          rw [e]
          exact hJ.store 115 A HA.out
        case measure => simp [RowKit.intOf]
    · have hlen : (Lib.decDigits t).length + (Lib.decDigits g).length + (lettersK r 3).length ≤ 1000 := by
        have h1 := HLEN.out
        have h2 := lettersK_len r 3
        omega
      have hs3 : showH t g r = Lib.decDigits t ++ (46 :: (Lib.decDigits g ++ (46 :: lettersK r 3))) := by simp [showH, lettersK, lettersR]
      have hJ := join3 L (Lib.decDigits t) (Lib.decDigits g) (lettersK r 3) wk b0 b1 b2 h4 hlen
      rw [← hs3] at hJ
      clear hlen hs3
      go_wp2_with fail
      refine hJ.mono ?_
      rintro e w3 ⟨rfl, hb3⟩
      go_wp2_with fail
      go_ret
      exact ⟨rfl, h1.trans hb3⟩

theorem Show_yes (t g : Nat) (r : Int) (w : World) (ho : okH t g r = true) (hg : g ≤ 4294967295) (htab : Tab w) :
    Calls Tryd.prog 11 #[.agg #[.int .i64 t, .int .u32 g, .int .u8 r]] w fun e w' => e = .returned (.tuple #[.string ⟨(showH t g r).toArray⟩, .int .i64 0]) ∧ Later w w' := by
  have hr := (okH_iff _ _ _).1 ho
  have hT : ∀ w1, Tab w1 → Calls Tryd.prog 20 #[.agg #[.int .i64 t, .int .u32 g, .int .u8 r]] w1 fun e w' => e = .returned (.string ⟨(showH t g r).toArray⟩) ∧ Later w1 w' := fun w1 h1 => text_is t g r w1 (by omega) hg hr.2.2.1 hr.2.2.2 h1
  have HO := Lib.hid ho
  obtain ⟨x, hx⟩ : ∃ x : Int, x = (t : Int) := ⟨_, rfl⟩
  obtain ⟨y, hy⟩ : ∃ y : Int, y = (g : Int) := ⟨_, rfl⟩
  rw [← hx, ← hy] at HO hT ⊢
  clear hx hy hr ho hg
  go_enter Tryd.func11, Tryd.ntmps11
  go_wp2_with fail
  refine (Right_is _ _ _ _ HO.out _).mono ?_
  rintro e w1 ⟨rfl, hb1⟩
  have k0 := cell_at hb1 (p := ⟨w.heap.size, 0, none⟩) (v := .int .i64 x) (by go_cell) (by simp)
  have k1 := cell_at hb1 (p := ⟨w.heap.size, 1, none⟩) (v := .int .u32 y) (by go_cell) (by simp)
  have k2 := cell_at hb1 (p := ⟨w.heap.size, 2, none⟩) (v := .int .u8 r) (by go_cell) (by simp)
  have ht1 := htab.later (((Later.refl w).alloc _).trans hb1)
  go_wp2_with fail
  refine (hT _ ht1).mono ?_
  rintro e w2 ⟨rfl, hb2⟩
  go_wp2_with fail
  go_ret2
  exact ⟨rfl, by repeat (first | exact Later.refl _ | assumption | apply Later.alloc | apply Later.drew | apply Later.drewN | refine Later.trans ?_ (by assumption))⟩
theorem Show_no (t g r : Int) (w : World) (ho : okH t g r = false) :
    Calls Tryd.prog 11 #[.agg #[.int .i64 t, .int .u32 g, .int .u8 r]] w fun e w' => e = .returned (.tuple #[.string ⟨#[]⟩, .int .i64 4]) ∧ Later w w' := by
  have HO := Lib.hid ho
  clear ho
  go_enter Tryd.func11, Tryd.ntmps11
  go_wp2_with fail
  refine (Right_is _ _ _ _ HO.out _).mono ?_
  rintro e w1 ⟨rfl, hb1⟩
  go_wp2_with fail
  go_ret2
  exact ⟨rfl, by repeat (first | exact Later.refl _ | assumption | apply Later.alloc | apply Later.drew | apply Later.drewN | refine Later.trans ?_ (by assumption))⟩
end Go.Proofs.YtpfnccjfmbecfaaDoor
