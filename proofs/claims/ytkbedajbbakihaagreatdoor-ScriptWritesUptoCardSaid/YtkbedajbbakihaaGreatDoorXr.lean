/-
 Texts of this proof, put together (Fw, Fx): each part's first words say what it holds. Conditions: as each part says.
-/
import Derived.Test.YtkbedajbbakihaaGreatDoorXi
import Derived.Test.YtkbedajbbakihaaGreatDoorYu
import Derived.Test.YtkbedajbbakihaaGreatDoorXe
import Derived.Test.YtkbedajbbakihaaGreatDoorXq
import Derived.Test.YtkbedajbbakihaaGreatDoorYb
/-
 A script copied; ScriptWrites walked. Conditions: the listed variables read as laid.
-/
namespace Go.Proofs.YtkbedajbbakihaaGreatDoor
open Go.RowKit
set_option linter.unusedSimpArgs false
set_option linter.unusedVariables false

theorem wf64R {x : Int} (h : (Lit.int .i64 x).wf = true) : -9223372036854775808 ≤ x ∧ x ≤ 9223372036854775807 := by
 simp [Lit.wf, IntKind.min, IntKind.max, IntKind.signed, IntKind.bits] at h
 exact h
theorem wf32R {x : Int} (h : (Lit.int .u32 x).wf = true) : 0 ≤ x ∧ x ≤ 4294967295 := by
 simp [Lit.wf, IntKind.min, IntKind.max, IntKind.signed, IntKind.bits] at h
 exact h
theorem wf8R {x : Int} (h : (Lit.int .u8 x).wf = true) : 0 ≤ x ∧ x ≤ 255 := by
 simp [Lit.wf, IntKind.min, IntKind.max, IntKind.signed, IntKind.bits] at h
 exact h
theorem req_fitR {N : Nat} (hN : N ≤ 5000000) {r : Req} (h : r.wf) (hl : r.key.length + r.val.length + r.old.length ≤ N) : r.fit := by
 have wfq : ∀ {x : Int}, (Lit.int .u64 x).wf = true → 0 ≤ x ∧ x ≤ 18446744073709551615 := fun {x} h => by
  simp [Lit.wf, IntKind.min, IntKind.max, IntKind.signed, IntKind.bits] at h
  exact h
 exact ⟨⟨wf32R h.hg, wfq h.qk, wfq h.qb, wf64R h.lim⟩, wf8R h.hr, wf8R h.rts, wf64R h.ten, wf64R h.ht, wf64R h.deed, Nat.le_trans hl hN⟩
theorem ent_fitR {N : Nat} (hN : N ≤ 1048576) {W : World} {v : Value} {s : Scr} (h : ScrAt N W v s) : ∀ e ∈ s.1, e.2.fit := fun e he => req_fitR (by omega : N ≤ 5000000) (h.ents e he).1.2 (h.ents e he).2
set_option maxRecDepth 100000 in
theorem copyEnts_is (v : Value) (es : List (Int × Req)) (w : World) (hn : es.length ≤ 1048576) (h : EntsAt w v es) :
  Calls Tryz.prog 66 #[v] w fun e w' => Later w w' ∧ ∃ a c, e = .returned (.slice a es.length c) ∧ w'.ownsRow w.heap.size 59 13 (.slice a es.length c) es.length (entC es) := by
 obtain ⟨ao, cap, rfl, h0⟩ := id h
 have hsrc := EntsAt.src h
 have hi59 : (Tryz.prog.info? 59).map (fun i => (i.zero, i.size, i.bytes)) = some (some (.agg #[.int .i64 0, .int .i64 0, .int .i64 0, .int .u32 0, .int .u8 0, .string ⟨#[]⟩, .string ⟨#[]⟩, .string ⟨#[]⟩, .int .i64 0, .int .i64 0, .int .u64 0, .int .u64 0, .int .u8 0]), 13, 120) := by kernel_rfl
 obtain ⟨i0, hi, hz0, hz1, hz2⟩ := info_parts hi59
 obtain ⟨n, hn'⟩ : ∃ n, es.length = n := ⟨_, rfl⟩
 have hlen : (entC es).length = n * 13 := by rw [entC_len, hn']
 rw [hn'] at hn hsrc ⊢
 have HS := Lib.hid (And.intro hsrc (And.intro hlen (entC_one es)))
 have HI := Lib.hid (And.intro hi (And.intro hz0 (And.intro hz1 hz2)))
 clear h h0 hsrc hlen hi59 hi hz0 hz1 hz2 hn'
 go_enter Tryz.func66, Tryz.ntmps66
 go_wp2_with (at_builtin; refine wpList_step (fun K1 hK1 => ?_); rw [if_pos (by rfl)]; refine wp_append_list _ (.tmp 4) (.tmp 5) 42 rfl w.heap.size 59 i0 _ 13 120 Tryz.underlying42 HI.out.1 HI.out.2.1 HI.out.2.2.1 HI.out.2.2.2 rfl (by decide) (.slice none 0 0) 0 [] rfl (World.ownsRow_nil _ _ _ _) ao n cap (entC es) rfl HS.out.2.1 HS.out.1 HS.out.2.2 ?c1 ?c2 (Nat.le_refl _) ?_)
 case c1 => unfold maxLen; omega
 case c2 => omega
 intro v8 W8 hown hg
 have hl8 := later_grown (Later.refl w) (World.ownsRow_nil w w.heap.size 59 13) hg
 obtain ⟨a, c, h33⟩ := slice_of_own hown
 subst h33
 have HF := Lib.hid (And.intro hl8 hown)
 clear hown hg hl8
 refine hK1 _ _ ?_
 go_wp2_with fail
 go_ret
 exact ⟨HF.out.1, a, c, rfl, HF.out.2⟩
set_option maxRecDepth 100000 in
theorem copyInts_is (v : Value) (ps : List Int) (w : World) (hn : ps.length ≤ 1048576) (h : NumsAt w v ps) :
  Calls Tryz.prog 67 #[v] w fun e w' => Later w w' ∧ ∃ a c, e = .returned (.slice a ps.length c) ∧ w'.ownsRow w.heap.size 3 1 (.slice a ps.length c) ps.length (ints ps) := by
 obtain ⟨ao, cap, rfl, h0⟩ := id h
 have hsrc := NumsAt.src h
 have hi3 : (Tryz.prog.info? 3).map (fun i => (i.zero, i.size, i.bytes)) = some (some (.int .i64 0), 1, 8) := by kernel_rfl
 obtain ⟨i0, hi, hz0, hz1, hz2⟩ := info_parts hi3
 obtain ⟨n, hn'⟩ : ∃ n, ps.length = n := ⟨_, rfl⟩
 have hlen : (ints ps).length = n * 1 := by rw [← hn']; simp [ints]
 rw [hn'] at hn hsrc ⊢
 have HS := Lib.hid (And.intro hsrc (And.intro hlen (ints_one ps)))
 have HI := Lib.hid (And.intro hi (And.intro hz0 (And.intro hz1 hz2)))
 clear h h0 hsrc hlen hi3 hi hz0 hz1 hz2 hn'
 go_enter Tryz.func67, Tryz.ntmps67
 go_wp2_with (at_builtin; refine wpList_step (fun K1 hK1 => ?_); rw [if_pos (by rfl)]; refine wp_append_list _ (.tmp 4) (.tmp 5) 43 rfl w.heap.size 3 i0 _ 1 8 Tryz.underlying43 HI.out.1 HI.out.2.1 HI.out.2.2.1 HI.out.2.2.2 rfl (by decide) (.slice none 0 0) 0 [] rfl (World.ownsRow_nil _ _ _ _) ao n cap (ints ps) rfl HS.out.2.1 HS.out.1 HS.out.2.2 ?c1 ?c2 (Nat.le_refl _) ?_)
 case c1 => unfold maxLen; omega
 case c2 => omega
 intro v8 W8 hown hg
 have hl8 := later_grown (Later.refl w) (World.ownsRow_nil w w.heap.size 3 1) hg
 obtain ⟨a, c, h33⟩ := slice_of_own hown
 subst h33
 have HF := Lib.hid (And.intro hl8 hown)
 clear hown hg hl8
 refine hK1 _ _ ?_
 go_wp2_with fail
 go_ret
 exact ⟨HF.out.1, a, c, rfl, HF.out.2⟩
set_option maxRecDepth 100000 in
set_option maxHeartbeats 4000000 in
theorem copyScript_is (ev pv : Value) (s : Scr) (w : World) (hn : s.1.length ≤ 1048576) (hm : s.2.length ≤ 1048576) (hev : EntsAt w ev s.1) (hpv : NumsAt w pv s.2) :
  Calls Tryz.prog 24 #[.agg #[ev, pv]] w fun e w' => Later w w' ∧ ∃ a c b d, e = .returned (.agg #[.slice a s.1.length c, .slice b s.2.length d]) ∧ EntsAt w' (.slice a s.1.length c) s.1 ∧ NumsAt w' (.slice b s.2.length d) s.2 := by
 obtain ⟨es, ps⟩ := s
 dsimp only at hn hm hev hpv ⊢
 have HEV := Lib.hid (fun w' (hl : Later w w') => hev.later hl)
 have HPV := Lib.hid (fun w' (hl : Later w w') => hpv.later hl)
 obtain ⟨ae, ce, rfl, -⟩ := hev
 obtain ⟨ap, cp, rfl, -⟩ := hpv
 have HC1 := Lib.hid (fun W (h : EntsAt W (.slice ae es.length ce) es) => copyEnts_is _ es W hn h)
 have HC2 := Lib.hid (fun W (h : NumsAt W (.slice ap ps.length cp) ps) => copyInts_is _ ps W hm h)
 obtain ⟨n, hn'⟩ : ∃ n, es.length = n := ⟨_, rfl⟩
 obtain ⟨m, hm'⟩ : ∃ m, ps.length = m := ⟨_, rfl⟩
 rw [hn'] at HEV HC1 ⊢
 rw [hm'] at HPV HC2 ⊢
 have HNM := Lib.hid (And.intro hn' hm')
 obtain ⟨V, hV⟩ : ∃ V, (w.alloc (.cells #[.slice ae n ce, .slice ap m cp] 45)).alloc (.cells #[.slice none 0 0, .slice none 0 0] 45) = V := ⟨_, rfl⟩
 have hlV : Later w V := by rw [← hV]; exact ((Later.refl w).alloc _).alloc _
 have hs2 : V.heap.size = w.heap.size + 2 := by rw [← hV]; show ((w.heap.push _).push _).size = _; simp
 have hk1 : V.heap[w.heap.size]? = some (.cells #[.slice ae n ce, .slice ap m cp] 45 (0, 0)) := by
  rw [← hV]
  have h := (MapKept.heap_alloc w (.cells #[.slice ae n ce, .slice ap m cp] 45)).1
  exact (((Later.refl _).alloc _).block _ (Array.getElem?_eq_some_iff.1 h).1).trans h
 have hk2 : V.heap[w.heap.size + 1]? = some (.cells #[.slice none 0 0, .slice none 0 0] 45 (0, 0)) := by
  rw [← hV]
  have hs : (w.alloc (.cells #[.slice ae n ce, .slice ap m cp] 45)).heap.size = w.heap.size + 1 := by show (w.heap.push _).size = _; simp
  rw [← hs]
  exact (MapKept.heap_alloc _ _).1
 have HV := Lib.hid (And.intro hlV (And.intro hk1 (And.intro hk2 hs2)))
 have HVE := Lib.hid hV
 have c0 : V.cell? ⟨w.heap.size, 0, none⟩ = some (.slice ae n ce) := by rw [Lib.cell_of_heap hk1]; rfl
 clear hn hm hn' hm' hV hlV hk1 hk2 hs2
 go_enter Tryz.func24, Tryz.ntmps24
 go_upto_region 1 with fail
 rw [HVE.out]
 go_wp2_with fail
 refine (HC1.out V (HEV.out V HV.out.1)).mono ?_
 rintro y1 w1 ⟨hl1, a, c, rfl, ho1⟩
 have hk1 := (hl1.block _ (by have := HV.out.2.2.2; omega)).trans HV.out.2.1
 have hk2 := (hl1.block _ (by have := HV.out.2.2.2; omega)).trans HV.out.2.2.1
 have c1 : w1.cell? ⟨w.heap.size, 0, none⟩ = some (.slice ae n ce) := by rw [Lib.cell_of_heap hk1]; rfl
 have f1 : w1.frozen? ⟨w.heap.size, 0, none⟩ = false := Lib.frozen_of_heap hk1 0
 have HW1 := Lib.hid (And.intro hl1 (And.intro hk1 (And.intro hk2 ho1)))
 clear hl1 hk1 hk2 ho1 c0
 go_upto_region 2 with fail
 obtain ⟨V2, hV2⟩ : ∃ V2, w1.setCell ⟨w.heap.size, 0, none⟩ (.slice a n c) = V2 := ⟨_, rfl⟩
 have hl2 : Later w V2 := by rw [← hV2]; exact (HV.out.1.trans HW1.out.1).setCell _ _ (Nat.le_refl _)
 have hk1 : V2.heap[w.heap.size]? = some (.cells #[.slice a n c, .slice ap m cp] 45 (0, 0)) := by rw [← hV2]; exact two_set0 HW1.out.2.1
 have hk2 : V2.heap[w.heap.size + 1]? = some (.cells #[.slice none 0 0, .slice none 0 0] 45 (0, 0)) := by rw [← hV2, Below.heap_setCell _ _ _ _ (by simp)]; exact HW1.out.2.2.1
 have ho2 : V2.ownsRow V.heap.size 59 13 (.slice a n c) n (entC es) := by rw [← hV2]; exact own_set HW1.out.2.2.2 (by have := HV.out.2.2.2; omega)
 have hz2 : w.heap.size + 2 ≤ V2.heap.size := by rw [← hV2]; have := HW1.out.1.size; have := HV.out.2.2.2; simp; omega
 rw [hV2]
 have c2 : V2.cell? ⟨w.heap.size, 1, none⟩ = some (.slice ap m cp) := by rw [Lib.cell_of_heap hk1]; rfl
 have HW2 := Lib.hid (And.intro hl2 (And.intro hk1 (And.intro hk2 (And.intro ho2 hz2))))
 clear hl2 hk1 hk2 ho2 hz2 hV2 c1 f1
 go_wp2_with fail
 refine (HC2.out V2 (HPV.out V2 HW2.out.1)).mono ?_
 rintro y3 w3 ⟨hl3, b, d, rfl, ho3⟩
 have hk1 := (hl3.block _ (by have := HW2.out.2.2.2.2; omega)).trans HW2.out.2.1
 have hk2 := (hl3.block _ (by have := HW2.out.2.2.2.2; omega)).trans HW2.out.2.2.1
 have c3 : w3.cell? ⟨w.heap.size, 1, none⟩ = some (.slice ap m cp) := by rw [Lib.cell_of_heap hk1]; rfl
 have f3 : w3.frozen? ⟨w.heap.size, 1, none⟩ = false := Lib.frozen_of_heap hk1 1
 have ho1 := ownsRow_later HW2.out.2.2.2.1 hl3
 have HW3 := Lib.hid (And.intro (HW2.out.1.trans hl3) (And.intro hk1 (And.intro hk2 (And.intro ho1 (And.intro ho3 hl3.size)))))
 clear hl3 hk1 hk2 ho1 ho3 c2
 go_upto_region 3 with fail
 obtain ⟨V4, hV4⟩ : ∃ V4, w3.setCell ⟨w.heap.size, 1, none⟩ (.slice b m d) = V4 := ⟨_, rfl⟩
 have hl4 : Later w V4 := by rw [← hV4]; exact HW3.out.1.setCell _ _ (Nat.le_refl _)
 have hk1 : V4.heap[w.heap.size]? = some (.cells #[.slice a n c, .slice b m d] 45 (0, 0)) := by rw [← hV4]; exact two_set1 HW3.out.2.1
 have hk2 : V4.heap[w.heap.size + 1]? = some (.cells #[.slice none 0 0, .slice none 0 0] 45 (0, 0)) := by rw [← hV4, Below.heap_setCell _ _ _ _ (by simp)]; exact HW3.out.2.2.1
 have hoA : V4.ownsRow V.heap.size 59 13 (.slice a n c) n (entC es) := by rw [← hV4]; exact own_set HW3.out.2.2.2.1 (by have := HV.out.2.2.2; omega)
 have hoB : V4.ownsRow V2.heap.size 3 1 (.slice b m d) m (ints ps) := by rw [← hV4]; exact own_set HW3.out.2.2.2.2.1 (by have := HW2.out.2.2.2.2; omega)
 rw [hV4]
 have c4 : V4.cell? ⟨w.heap.size, 0, none⟩ = some (.slice a n c) := by rw [Lib.cell_of_heap hk1]; rfl
 have c5 : V4.cell? ⟨w.heap.size, 1, none⟩ = some (.slice b m d) := by rw [Lib.cell_of_heap hk1]; rfl
 have HZ := Lib.hid hk2
 have hfin : Later w (V4.setRow (w.heap.size + 1) #[.slice a n c, .slice b m d]) := row_later hl4 (by omega) _
 have hE : EntsAt (V4.setRow (w.heap.size + 1) #[.slice a n c, .slice b m d]) (.slice a n c) es := EntsAt.of_owns (base := V.heap.size) (by
  rw [HNM.out.1]
  exact hoA.kept (row := some (w.heap.size + 1)) ⟨rfl, rfl, rfl, by simp, fun k _ hk => setRow_other _ _ k _ (fun e => hk (by rw [e]))⟩ (.inr (fun e => by have := (hoA.lt _ e).1; have := HV.out.2.2.2; omega)))
 have hP : NumsAt (V4.setRow (w.heap.size + 1) #[.slice a n c, .slice b m d]) (.slice b m d) ps := NumsAt.of_owns (base := V2.heap.size) (by
  rw [HNM.out.2]
  exact hoB.kept (row := some (w.heap.size + 1)) ⟨rfl, rfl, rfl, by simp, fun k _ hk => setRow_other _ _ k _ (fun e => hk (by rw [e]))⟩ (.inr (fun e => by have := (hoB.lt _ e).1; have := HW2.out.2.2.2.2; omega)))
 have hkF := setRow_heap V4 (w.heap.size + 1) _ #[.slice a n c, .slice b m d] 45 (0, 0) hk2
 have hsi : (Tryz.prog.info? 45).map (·.size) = some 2 := by kernel_rfl
 have HSI := Lib.hid (show (Tryz.prog.info? 45).map (·.size) = some (#[Value.slice a n c, .slice b m d] : Array Value).size ∧ (#[Value.slice none 0 0, .slice none 0 0] : Array Value).size = (#[Value.slice a n c, .slice b m d] : Array Value).size ∧ (#[Value.slice a n c, .slice b m d] : Array Value).all (·.oneCell') = true from ⟨hsi, rfl, by simp [Value.oneCell']⟩)
 have HFIN := Lib.hid (And.intro hfin (And.intro hE (And.intro hP hkF)))
 clear hl4 hk1 hk2 hoA hoB hV4 c3 f3 hfin hE hP hkF hsi
 go_wp2_with (refine wpList_store_rowTo rfl 45 (.tmp 2) (.tmp 11) rfl rfl (w.heap.size + 1) #[.slice a n c, .slice b m d] rfl rfl 45 #[.slice none 0 0, .slice none 0 0] HZ.out HSI.out.1 HSI.out.2.1 HSI.out.2.2 ?_)
 obtain ⟨V5, hV5⟩ : ∃ V5, V4.setRow (w.heap.size + 1) #[.slice a n c, .slice b m d] = V5 := ⟨_, rfl⟩
 rw [hV5] at HFIN ⊢
 have c6 : V5.cell? ⟨w.heap.size + 1, 0, none⟩ = some (.slice a n c) := by rw [Lib.cell_of_heap HFIN.out.2.2.2]; rfl
 have c7 : V5.cell? ⟨w.heap.size + 1, 1, none⟩ = some (.slice b m d) := by rw [Lib.cell_of_heap HFIN.out.2.2.2]; rfl
 clear hV5 c4 c5
 go_wp2_with fail
 refine bodyPost_ret ?_ rfl ⟨HFIN.out.1, a, c, b, d, rfl, HFIN.out.2.1, HFIN.out.2.2.1⟩
 simp [results, Tryz.results24, go_sem, c6, c7]
end Go.Proofs.YtkbedajbbakihaaGreatDoor

/-
 ScriptWrites, walked. Conditions: the listed variables read as laid.
-/
namespace Go.Proofs.YtkbedajbbakihaaGreatDoor
open Go.RowKit
set_option linter.unusedSimpArgs false
set_option linter.unusedVariables false

def fT (r : Except Int (List UInt8)) : ByteArray := match r with
 | .error _ => ⟨#[]⟩
 | .ok t => ⟨t.toArray⟩
def fC (r : Except Int (List UInt8)) : Int := match r with
 | .error c => c
 | .ok _ => 0
theorem FmEnd.flat {r : Except Int (List UInt8)} {w : World} {e : Ending} {w' : World} (h : FmEnd r w e w') : e = .returned (.tuple #[.string (fT r), .int .i64 (fC r)]) ∧ Later w w' := by
 cases r with
 | error c => exact ⟨h.2, h.1⟩
 | ok t => exact ⟨h.2, h.1⟩
theorem Format_any (ev pv : Value) (s : Scr) (w : World) (hw : Laid w) (hn : s.1.length ≤ 1048576) (hm : s.2.length ≤ 1048576) (hev : EntsAt w ev s.1) (hpv : NumsAt w pv s.2) (hfit : EsFit s.1) (hin : ∀ p ∈ s.2, inI p) :
  Calls Tryz.prog 25 #[.agg #[ev, pv]] w (FmEnd (fmtP s) w) := by
 cases hb : bigP s with
 | false => exact Format_is ev pv s w hw hb hev hpv hfit hin
 | true => exact Format_big ev pv s w hb hev hpv (by omega) (by omega)
theorem refFormat_any (ev pv : Value) (s : Scr) (w : World) (hn : s.1.length ≤ 1048576) (hm : s.2.length ≤ 1048576) (hev : EntsAt w ev s.1) (hpv : NumsAt w pv s.2) (hfit : EsFit s.1) (hin : ∀ p ∈ s.2, inI p) :
  Calls Tryz.prog 26 #[.agg #[ev, pv]] w (FmEnd (fmtP s) w) := by
 cases hb : bigP s with
 | false => exact refFormat_is ev pv s w hb hev hpv hfit hin
 | true => exact refFormat_big ev pv s w hn hm hb hev hpv
set_option maxRecDepth 100000 in
set_option maxHeartbeats 4000000 in
theorem ScriptWrites_is (v : Value) (s : Scr) (N : Nat) (W : World) (hN : N ≤ 1048576) (h : ScrAt N W v s) (hw : Laid W) : Calls Tryz.prog 7 #[v] W fun e w' => e = .returned (.bool true) ∧ Later W w' := by
 obtain ⟨ev, pv, rfl, hev, hpv⟩ := h.ex
 have hfit := ent_fitR hN h
 have hwf : ∀ e ∈ s.1, (Lit.int .i64 e.1).wf = true ∧ e.2.wf := fun e he => (h.ents e he).1
 have hin : ∀ p ∈ s.2, inI p := fun p hp => wf64R (h.nums p hp)
 have hes : EsFit s.1 := fun e he => ⟨wf64R (hwf e he).1, hfit e he⟩
 have hn : s.1.length ≤ 1048576 := Nat.le_trans h.le1 hN
 have hm : s.2.length ≤ 1048576 := Nat.le_trans h.le2 hN
 have HEV := Lib.hid (fun w' (hl : Later W w') => hev.later hl)
 have HPV := Lib.hid (fun w' (hl : Later W w') => hpv.later hl)
 have HW := Lib.hid hw
 obtain ⟨ae, ce, rfl, -⟩ := hev
 obtain ⟨ap, cp, rfl, -⟩ := hpv
 obtain ⟨n, hn'⟩ : ∃ n, s.1.length = n := ⟨_, rfl⟩
 obtain ⟨m, hm'⟩ : ∃ m, s.2.length = m := ⟨_, rfl⟩
 by_cases h5 : 5000 < n
 ·rw [hn', hm']
  have d1 : decide ((5000 : Int) < (n : Int)) = true := decide_eq_true (by omega)
  clear h hfit hwf hin hes hn hm HEV HPV hn' hm' hw
  go_enter Tryz.func7, Tryz.ntmps7
  go_wp2_with fail
  refine (awake_is _ (HW.out.later ((Later.refl W).alloc _))).mono ?_
  rintro y1 w1 ⟨rfl, hl⟩
  have HL := Lib.hid (((Later.refl W).alloc _).trans hl)
  clear hl
  go_wp2_with fail
  go_ret
  exact ⟨rfl, HL.out⟩
 ·have d1 : decide ((5000 : Int) < (n : Int)) = false := decide_eq_false (by omega)
  by_cases h7 : 70000 < m
  ·rw [hn', hm']
   have d2 : decide ((70000 : Int) < (m : Int)) = true := decide_eq_true (by omega)
   clear h hfit hwf hin hes hn hm HEV HPV hn' hm' hw h5
   go_enter Tryz.func7, Tryz.ntmps7
   go_wp2_with fail
   refine (awake_is _ (HW.out.later ((Later.refl W).alloc _))).mono ?_
   rintro y1 w1 ⟨rfl, hl⟩
   have HL := Lib.hid (((Later.refl W).alloc _).trans hl)
   clear hl
   go_wp2_with fail
   go_ret
   exact ⟨rfl, HL.out⟩
  ·have d2 : decide ((70000 : Int) < (m : Int)) = false := decide_eq_false (by omega)
   have hcs := fun ev pv W h1 h2 => copyScript_is ev pv s W hn hm h1 h2
   have hfm := fun ev pv W (hL : Laid W) h1 h2 => (Format_any ev pv s W hL hn hm h1 h2 hes hin).mono fun e w' h => h.flat
   have hrf := fun ev pv W h1 h2 => (refFormat_any ev pv s W hn hm h1 h2 hes hin).mono fun e w' h => h.flat
   have hss := fun ev pv eu pu W a1 a2 a3 a4 => SameScript_is ev pv eu pu s (by omega) (by omega) hwf W a1 a2 a3 a4
   obtain ⟨T, hT⟩ : ∃ T, fT (fmtP s) = T := ⟨_, rfl⟩
   obtain ⟨cc, hcc⟩ : ∃ c, fC (fmtP s) = c := ⟨_, rfl⟩
   rw [hT, hcc] at hfm hrf
   rw [hn', hm'] at hcs ⊢
   rw [hn'] at HEV
   rw [hm'] at HPV
   have HCS := Lib.hid hcs
   have HFM := Lib.hid hfm
   have HRF := Lib.hid hrf
   have HSS := Lib.hid hss
   have hk0 : (W.alloc (.cells #[.slice ae n ce, .slice ap m cp] 45)).heap[W.heap.size]? = some (.cells #[.slice ae n ce, .slice ap m cp] 45 (0, 0)) := (MapKept.heap_alloc W _).1
   obtain ⟨V0, hV0⟩ : ∃ V, W.alloc (.cells #[.slice ae n ce, .slice ap m cp] 45) = V := ⟨_, rfl⟩
   have hl0 : Later W V0 := by rw [← hV0]; exact (Later.refl W).alloc _
   rw [hV0] at hk0
   have HV0 := Lib.hid (And.intro hl0 hk0)
   have HVE := Lib.hid hV0
   clear h hfit hwf hin hes hn hm hn' hm' hw h5 h7 hcs hfm hrf hss hT hcc hk0 hV0 hl0
   go_enter Tryz.func7, Tryz.ntmps7
   go_upto_region 3 with fail
   rw [HVE.out]
   have c0 : V0.cell? ⟨W.heap.size, 0, none⟩ = some (.slice ae n ce) := by rw [Lib.cell_of_heap HV0.out.2]; rfl
   have c1 : V0.cell? ⟨W.heap.size, 1, none⟩ = some (.slice ap m cp) := by rw [Lib.cell_of_heap HV0.out.2]; rfl
   go_wp2_with fail
   refine (HCS.out _ _ V0 (HEV.out V0 HV0.out.1) (HPV.out V0 HV0.out.1)).mono ?_
   rintro y1 w1 ⟨hl1, a, c, b, d, rfl, hE1, hP1⟩
   have HL1 := Lib.hid hl1
   have HEP := Lib.hid (And.intro hE1 hP1)
   clear hl1 hE1 hP1 c0 c1
   go_wp2_with fail
   obtain ⟨V1, hV1⟩ : ∃ V, w1.alloc (.cells #[.slice a n c, .slice b m d] 45) = V := ⟨_, rfl⟩
   have hlv : Later w1 V1 := by rw [← hV1]; exact (Later.refl w1).alloc _
   have hkv : V1.heap[w1.heap.size]? = some (.cells #[.slice a n c, .slice b m d] 45 (0, 0)) := by rw [← hV1]; exact (MapKept.heap_alloc w1 _).1
   rw [hV1]
   have HV1 := Lib.hid (And.intro hlv hkv)
   clear hV1 hlv hkv
   refine (HFM.out _ _ V1 (HW.out.later (HV0.out.1.trans (HL1.out.trans HV1.out.1))) (HEP.out.1.later HV1.out.1) (HEP.out.2.later HV1.out.1)).mono ?_
   rintro y2 w2 ⟨rfl, hl2⟩
   have hl2' := HL1.out.trans (HV1.out.1.trans hl2)
   have hk2 := (hl2'.block _ (Array.getElem?_eq_some_iff.1 HV0.out.2).1).trans HV0.out.2
   have c0 : w2.cell? ⟨W.heap.size, 0, none⟩ = some (.slice ae n ce) := by rw [Lib.cell_of_heap hk2]; rfl
   have c1 : w2.cell? ⟨W.heap.size, 1, none⟩ = some (.slice ap m cp) := by rw [Lib.cell_of_heap hk2]; rfl
   have HL2 := Lib.hid (HV0.out.1.trans hl2')
   have HK2 := Lib.hid hk2
   have HL12 := Lib.hid hl2
   clear hl2 hl2' hk2
   go_wp2_with fail
   refine (HRF.out _ _ w2 (HEV.out w2 HL2.out) (HPV.out w2 HL2.out)).mono ?_
   rintro y3 w3 ⟨rfl, hl3⟩
   have hk3 := (hl3.block _ (Array.getElem?_eq_some_iff.1 HK2.out).1).trans HK2.out
   have hlv3 := HL12.out.trans hl3
   have hkv3 := (hlv3.block _ (Array.getElem?_eq_some_iff.1 HV1.out.2).1).trans HV1.out.2
   have d0 : w3.cell? ⟨W.heap.size, 0, none⟩ = some (.slice ae n ce) := by rw [Lib.cell_of_heap hk3]; rfl
   have d1 : w3.cell? ⟨W.heap.size, 1, none⟩ = some (.slice ap m cp) := by rw [Lib.cell_of_heap hk3]; rfl
   have d2 : w3.cell? ⟨w1.heap.size, 0, none⟩ = some (.slice a n c) := by rw [Lib.cell_of_heap hkv3]; rfl
   have d3 : w3.cell? ⟨w1.heap.size, 1, none⟩ = some (.slice b m d) := by rw [Lib.cell_of_heap hkv3]; rfl
   have HL3 := Lib.hid (HL2.out.trans hl3)
   have HS := Lib.hid (HSS.out _ _ _ _ w3 (HEP.out.1.later (HV1.out.1.trans hlv3)) (HEP.out.2.later (HV1.out.1.trans hlv3)) (HEV.out w3 HL3.out) (HPV.out w3 HL3.out))
   clear hl3 hk3 hlv3 hkv3 c0 c1
   go_wp2_with fail
   refine HS.out.mono ?_
   rintro y4 w4 ⟨rfl, hl4⟩
   have HL4 := Lib.hid (HL3.out.trans hl4)
   clear hl4 d0 d1 d2 d3
   go_wp2_with fail
   refine (awake_is _ (HW.out.later HL4.out)).mono ?_
   rintro y5 w5 ⟨rfl, hl5⟩
   have HL5 := Lib.hid (HL4.out.trans hl5)
   clear hl5
   go_wp2_with fail
   go_ret
   exact ⟨rfl, HL5.out⟩
end Go.Proofs.YtkbedajbbakihaaGreatDoor
