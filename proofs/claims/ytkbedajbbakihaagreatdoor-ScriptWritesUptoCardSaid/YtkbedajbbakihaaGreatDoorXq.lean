/-
 Texts of this proof, put together (Fr): each part's first words say what it holds. Conditions: as each part says.
-/
import Derived.Test.YtkbedajbbakihaaGreatDoorYu
import Derived.Test.YtkbedajbbakihaaGreatDoorQj
import Derived.Test.YtkbedajbbakihaaGreatDoorXk
import Derived.Test.YtkbedajbbakihaaGreatDoorXp
/-
 The reference's Format, walked. Conditions: the entries fit, the picks are words.
-/
namespace Go.Proofs.YtkbedajbbakihaaGreatDoor
open Go.RowKit Go.Sort Go.Lib
set_option linter.unusedSimpArgs false
set_option linter.unusedVariables false

theorem pks_lenR (n : Nat) (ps : List Int) (h : ∀ p ∈ ps, inI p) : ∀ i, (pkF n i ps).length ≤ 30 * ps.length := by
 induction ps with
 | nil => intro i; simp [pkF]
 | cons p t ih =>
  intro i
  have h1 := ih (fun x hx => h x (List.mem_cons_of_mem _ hx)) (i + 1)
  have h2 := h p List.mem_cons_self
  have h3 := itoa_len p h2.1 h2.2
  have h4 : (if i % 16 = 0 then picksN else []).length ≤ 5 := by split <;> simp [picksN]
  have h5 : (if i % 16 = 15 ∨ i + 1 = n then ([10] : List UInt8) else []).length ≤ 1 := by split <;> simp
  rw [pkF, pkB]
  simp only [List.length_append, List.length_cons] at h4 h5 ⊢
  omega
/-- the reference's Format between two lines -/
structure RF (w : World) (ev pv : Value) (L : List (List UInt8)) (v : Value) (W : World) : Prop where
 later : Later w W
 big : w.heap.size + 1 ≤ W.heap.size
 box : W.heap[w.heap.size]? = some (.cells #[ev, pv] 45 (0, 0))
 own : W.ownsRow (w.heap.size + 1) 9 1 v L.length (wsC L)
theorem RF.after {w W W' : World} {ev pv v : Value} {L : List (List UInt8)} (h : RF w ev pv L v W) (hl : Later W W') : RF w ev pv L v W' := by
 have hb := h.big
 exact ⟨h.later.trans hl, Nat.le_trans hb hl.size, (hl.block _ (by omega)).trans h.box, ownsRow_later h.own hl⟩
theorem RF.push {w W W6 : World} {ev pv v v6 : Value} {L : List (List UInt8)} {T : ByteArray} {t : List UInt8} (h : RF w ev pv L v W) (hT : T.data.toList = t) (o : Obj) (hown : W6.ownsRow (w.heap.size + 1) 9 1 v6 (L.length + 1) (wsC L ++ [.string T])) (hg : (W.alloc o).grownBy W6 v.ownBlock) : RF w ev pv (L ++ [t]) v6 W6 := by
 have h2 := h.after ((Later.refl W).alloc o)
 have hb := h2.big
 have hlt : ∀ k, v.ownBlock = some k → w.heap.size + 1 ≤ k := fun k hk => (h2.own.lt k hk).1
 have keep : ∀ k, k < w.heap.size + 1 → W6.heap[k]? = (W.alloc o).heap[k]? := fun k hk => hg.block k (by omega) (fun e => by have := hlt k e.symm; omega)
 have hTT : T = ⟨t.toArray⟩ := by
  apply ByteArray.ext
  apply Array.toList_inj.1
  rw [hT]
 refine ⟨⟨hg.os.trans h2.later.os, hg.tape.trans h2.later.tape, hg.output.trans h2.later.output, Nat.le_trans h2.later.size hg.size, fun k hk => (keep k (by omega)).trans (h2.later.block k hk)⟩, Nat.le_trans hb hg.size, (keep _ (by omega)).trans h2.box, ?_⟩
 rw [List.length_append, show wsC (L ++ [t]) = wsC L ++ [.string T] by simp [wsC, hTT]]
 exact hown
/-- the line that is under way -/
def curF (m j : Nat) (cur : List UInt8) : List UInt8 := if j % 16 = 0 ∨ j = m then [] else cur
set_option maxRecDepth 100000 in
theorem refFormat_big (ev pv : Value) (s : Scr) (w : World) (hs1 : s.1.length ≤ 1048576) (hs2 : s.2.length ≤ 1048576) (hb : bigP s = true) (hev : EntsAt w ev s.1) (hpv : NumsAt w pv s.2) :
  Calls Tryz.prog 26 #[.agg #[ev, pv]] w (FmEnd (fmtP s) w) := by
 have hf : fmtP s = .error 3 := by unfold fmtP; rw [hb]; rfl
 rw [hf]
 obtain ⟨es, ps⟩ := s
 obtain ⟨ae, ce, rfl, -⟩ := hev
 obtain ⟨ap, cp, rfl, -⟩ := hpv
 dsimp only at hs1 hs2
 unfold bigP at hb
 dsimp only at hb
 obtain ⟨n, hn⟩ : ∃ n, es.length = n := ⟨_, rfl⟩
 obtain ⟨m, hm⟩ : ∃ m, ps.length = m := ⟨_, rfl⟩
 rw [hn] at hb hs1
 rw [hm] at hb hs2
 dsimp only
 rw [hn, hm]
 by_cases h1 : 4096 < n
 ·have d1 : decide ((4096 : Int) < (n : Int)) = true := decide_eq_true (by omega)
  clear hb hf hn hm
  go_enter Tryz.func26, Tryz.ntmps26
  go_wp2_with fail
  go_ret2
  exact ⟨by repeat (first | exact Later.refl _ | assumption | apply Later.alloc | apply Later.drew | apply Later.drewN | refine Later.trans ?_ (by assumption)), rfl⟩
 ·have d1 : decide ((4096 : Int) < (n : Int)) = false := decide_eq_false (by omega)
  have h2 : 65536 < m := by simpa [h1] using hb
  have d2 : decide ((65536 : Int) < (m : Int)) = true := decide_eq_true (by omega)
  clear hb hf hn hm
  go_enter Tryz.func26, Tryz.ntmps26
  go_wp2_with fail
  go_ret2
  exact ⟨by repeat (first | exact Later.refl _ | assumption | apply Later.alloc | apply Later.drew | apply Later.drewN | refine Later.trans ?_ (by assumption)), rfl⟩
set_option maxRecDepth 100000 in
set_option maxHeartbeats 16000000 in
theorem refFormat_is (ev pv : Value) (s : Scr) (w : World) (hb : bigP s = false) (hev : EntsAt w ev s.1) (hpv : NumsAt w pv s.2) (hfit : EsFit s.1) (hin : ∀ p ∈ s.2, inI p) :
  Calls Tryz.prog 26 #[.agg #[ev, pv]] w (FmEnd (fmtP s) w) := by
 obtain ⟨es, ps⟩ := s
 dsimp only at hev hpv hfit hin
 have hbl := big_le (s := (es, ps)) (by rw [hb]; simp)
 have hf : fmtP (es, ps) = match entsL es with
  | none => .error 4
  | some a => if 262144 < (a ++ pkF ps.length 0 ps).length then .error 3 else .ok (a ++ pkF ps.length 0 ps) := by
  unfold fmtP; rw [hb, if_neg (by simp)]; rfl
 obtain ⟨res, hres⟩ : ∃ res, fmtP (es, ps) = res := ⟨_, rfl⟩
 rw [hres]
 rw [hres] at hf
 have HEV := Lib.hid (fun w' (hl : Later w w') => hev.later hl)
 have HPV := Lib.hid (fun w' (hl : Later w w') => hpv.later hl)
 obtain ⟨ae, ce, rfl, -⟩ := hev
 obtain ⟨ap, cp, rfl, -⟩ := hpv
 obtain ⟨n, hn'⟩ : ∃ n, es.length = n := ⟨_, rfl⟩
 obtain ⟨m, hm'⟩ : ∃ m, ps.length = m := ⟨_, rfl⟩
 dsimp only at hbl
 rw [hn', hm'] at hbl
 rw [hm'] at hf
 rw [hn'] at HEV ⊢
 rw [hm'] at HPV ⊢
 have HNM := Lib.hid (And.intro hn' hm')
 have HFIT := Lib.hid (And.intro hfit hin)
 have HRES := Lib.hid hf
 obtain ⟨hb1, hb2⟩ := hbl
 have HBL := Lib.hid (And.intro hb1 hb2)
 have hi9 : (Tryz.prog.info? 9).map (fun i => (i.zero, i.size, i.bytes)) = some (some (.string ⟨#[]⟩), 1, 16) := by kernel_rfl
 obtain ⟨i0, hi, hz0, hz1, hz2⟩ := info_parts hi9
 have HI := Lib.hid (And.intro hi (And.intro hz0 (And.intro hz1 hz2)))
 have d1 : decide ((4096 : Int) < (n : Int)) = false := decide_eq_false (by omega)
 have d1' : ¬ (4096 : Int) < (n : Int) := by omega
 have d2 : decide ((65536 : Int) < (m : Int)) = false := decide_eq_false (by omega)
 have d2' : ¬ (65536 : Int) < (m : Int) := by omega
 have HF0 := Lib.hid (show RF w (.slice ae n ce) (.slice ap m cp) [] (.slice none 0 0) (w.alloc (.cells #[.slice ae n ce, .slice ap m cp] 45)) from
  ⟨(Later.refl w).alloc _, by simp, (MapKept.heap_alloc w _).1, World.ownsRow_nil _ _ _ _⟩)
 have HE4 := Lib.hid (fun w' (hl : Later w w') (hn : entsL es = none) => show FmEnd res w (.returned (.tuple #[.string ⟨#[]⟩, .int .i64 4])) w' by
  rw [hf, hn]
  exact ⟨hl, rfl⟩)
 clear hn' hm' hfit hin hf hres hb hi9 hi hz0 hz1 hz2
 go_enter Tryz.func26, Tryz.ntmps26
 go_wp2_with fail
 go_loopw [4, 5, 6] (fun o s i wr => ∃ (k : Nat) (L : List (List UInt8)) (z : Nat), k ≤ n ∧ i = .int .i64 k ∧ s = .int .i64 (z : Int) ∧ L.flatten.length = z ∧ entsL (es.take k) = some L.flatten ∧ L.length = k ∧ z ≤ k * 100000000 ∧ RF w (.slice ae n ce) (.slice ap m cp) L o wr) (fun _ _ i _ => n - (RowKit.intOf i).toNat)
 case atStart => exact ⟨0, [], 0, Nat.zero_le _, rfl, rfl, rfl, by simp [entsL], rfl, by omega, HF0.out⟩
 case round =>
  obtain ⟨k, L, z, hk, rfl, rfl, hz, hA, hLk, hzb, hrf⟩ := hrel
  rename World => wk
  have HRF := Lib.hid hrf
  have HA := Lib.hid (And.intro hA (And.intro hz hLk))
  obtain ⟨ov, oc, rfl⟩ := slice_of_own hrf.own
  have c0 : wk.cell? ⟨w.heap.size, 0, none⟩ = some (.slice ae n ce) := by rw [Lib.cell_of_heap hrf.box]; rfl
  clear hA hz hrf HF0
  rw [hLk]
  clear hLk
  by_cases hlt : k < n
  ·have hX := HEV.out wk HRF.out.later
   obtain ⟨ae', ce', hvv, h0 | ⟨X, off, rfl, hrg⟩⟩ := hX
   ·have := HNM.out.1; omega
   ·injection hvv with q1 q2 q3
    subst q1
    have hke : k < es.length := by have := HNM.out.1; omega
    obtain ⟨e, he⟩ : ∃ e, es[k]? = some e := ⟨_, List.getElem?_eq_getElem hke⟩
    have hr := hrg k e he
    have hef := HFIT.out.1 e (List.mem_of_getElem? he)
    have HTK := Lib.hid (entsL_take he HA.out.1)
    obtain ⟨n0, r⟩ := e
    dsimp only at hef HTK
    have hsr := refShow_is r hef.2 hef.2.wf
    obtain ⟨Lq, hLq⟩ : ∃ L, (reqA r).toList = L := ⟨_, rfl⟩
    have hr1 : wk.rangeAt X (off + k * 13 + 1) Lq := fun j u hj => by
     rw [Nat.add_assoc, Nat.add_comm 1 j]
     exact hr (j + 1) u (by rw [← hLq] at hj; show (Value.int .i64 n0 :: (reqA r).toList)[j + 1]? = _; rw [List.getElem?_cons_succ]; exact hj)
    have hr0 : wk.cell? ⟨X, off + k * 13, none⟩ = some (.int .i64 n0) := hr 0 _ rfl
    have hLi : (Tryz.prog.info? 39).map (·.size) = some Lq.length := by rw [← hLq, Array.length_toList]; exact reqA_info
    have hLa : reqA r = Lq.toArray := by rw [← hLq, Array.toArray_toList]
    unfold reqV at hsr
    rw [hLa] at hsr
    have HSR := Lib.hid hsr
    have HR := Lib.hid (And.intro hr1 (And.intro hLi hr0))
    have HEF := Lib.hid hef
    have hfe := hef.1
    unfold inI at hfe
    have d0 : decide ((k : Int) < (n : Int)) = true := decide_eq_true (by omega)
    clear hsr hr hr1 hr0 hLi hLa hLq hef he hke hrg q2 q3
    cases hs : showP r with
    | none =>
     have HS2 := Lib.hid (show ∀ W1, Calls Tryz.prog 23 #[.agg Lq.toArray] W1 fun e w' => e = .returned (.tuple #[.string ⟨#[]⟩, .int .i64 4]) ∧ Later W1 w' from fun W1 => by have h := HSR.out W1; rw [hs] at h; exact h)
     have HEE := Lib.hid (show entsL es = none from entsL_none (k := k + 1) (by rw [HTK.out]; unfold entL; rw [hs]; rfl))
     clear hs HSR
     go_wp2_with (refine wpList_load_mid rfl 39 (.tmp 34) rfl X (off + k * 13 + 1) rfl Lq _ HR.out.1 Tryz.underlying39 rfl HR.out.2.1 ?_)
     refine (HS2.out wk).mono ?_
     rintro y1 w2 ⟨rfl, hl2⟩
     have HF := Lib.hid (HE4.out w2 (HRF.out.later.trans hl2) HEE.out)
     clear hl2
     go_wp2_with fail
     go_ret2
     exact HF.out
    | some t =>
     have HS2 := Lib.hid (show ∀ W1, Calls Tryz.prog 23 #[.agg Lq.toArray] W1 fun e w' => e = .returned (.tuple #[.string ⟨t.toArray⟩, .int .i64 0]) ∧ Later W1 w' from fun W1 => by have h := HSR.out W1; rw [hs] at h; exact h)
     have htl := showP_len HEF.out.2 hs
     obtain ⟨T, hT⟩ : ∃ T : ByteArray, T = ⟨t.toArray⟩ := ⟨_, rfl⟩
     have hTs : T.size = t.length := by rw [hT, size_mk]
     rw [← hT] at HS2
     have HS := Lib.hid (And.intro hs (And.intro hT hTs))
     have HTL := Lib.hid htl
     clear hs HSR hT hTs htl
     go_wp2_with (refine wpList_load_mid rfl 39 (.tmp 34) rfl X (off + k * 13 + 1) rfl Lq _ HR.out.1 Tryz.underlying39 rfl HR.out.2.1 ?_)
     refine (HS2.out wk).mono ?_
     rintro y1 w2 ⟨rfl, hl2⟩
     have HRF2 := Lib.hid (HRF.out.after hl2)
     have c2 : w2.cell? ⟨w.heap.size, 0, none⟩ = some (.slice (some ⟨X, off, none⟩) n ce) := by rw [Lib.cell_of_heap HRF2.out.box]; rfl
     have c3 : w2.cell? ⟨X, off + k * 13, none⟩ = some (.int .i64 n0) := cell_at hl2 HR.out.2.2 (cell_lt HR.out.2.2)
     clear hl2 c0 d0
     by_cases h0 : n0 < 0
     ·have HEE := Lib.hid (show entsL es = none from entsL_none (k := k + 1) (by
       rw [HTK.out]; unfold entL; rw [HS.out.1, Option.bind_some, if_neg (by omega)]; rfl))
      have HF := Lib.hid (HE4.out w2 HRF2.out.later HEE.out)
      have t1 : decide (n0 < (0 : Int)) = true := decide_eq_true h0
      clear h0
      go_wp2_with fail
      go_ret2
      exact HF.out
     ·have t1 : decide (n0 < (0 : Int)) = false := decide_eq_false h0
      by_cases h9 : 999999999 < n0
      ·have HEE := Lib.hid (show entsL es = none from entsL_none (k := k + 1) (by
        rw [HTK.out]; unfold entL; rw [HS.out.1, Option.bind_some, if_neg (by omega)]; rfl))
       have HF := Lib.hid (HE4.out w2 HRF2.out.later HEE.out)
       have t2 : decide ((999999999 : Int) < n0) = true := decide_eq_true h9
       clear h0 h9
       go_wp2_with fail
       go_ret2
       exact HF.out
      ·have t2 : decide ((999999999 : Int) < n0) = false := decide_eq_false h9
       have hu : IntKind.u64.wrap n0 = n0 := IntWalk.u64_in _ (by omega)
       obtain ⟨T1, hT1⟩ : ∃ T1 : ByteArray, T1 = ⟨(Lib.itoa n0).toArray⟩ := ⟨_, rfl⟩
       have hil := itoa_len n0 (by omega) (by omega)
       have hT1s : T1.size ≤ 21 := by rw [hT1, size_mk]; exact hil
       have HDE := Lib.hid (show ∀ W1, Calls Tryz.prog 71 #[.int .u64 n0] W1 fun e w' => e = .returned (.string T1) ∧ Later W1 w' from fun W1 => by
        have h := refDec_is n0.toNat (by omega) W1
        rw [Int.toNat_of_nonneg (by omega)] at h
        rw [hT1]
        obtain ⟨u, rfl⟩ : ∃ u : Nat, n0 = u := ⟨n0.toNat, by omega⟩
        rw [itoa_pos]
        exact h)
       have HENT := Lib.hid (show entL (n0, r) = some (Lib.itoa n0 ++ 32 :: t ++ [10]) by
        unfold entL
        rw [HS.out.1, Option.bind_some, if_pos (by omega)])
       have hTb : T.size ≤ 90000000 := by have := HS.out.2.2; have := HTL.out; omega
       have k1 : ¬ 9223372036854775807 < T1.size + 1 := by omega
       have k2 : ¬ 9223372036854775807 < T1.size + 1 + T.size := by omega
       have k3 : ¬ 9223372036854775807 < T1.size + 1 + T.size + 1 := by omega
       have HT1 := Lib.hid hT1
       clear h0 h9 hil hT1
       go_wp2_with fail
       refine (HDE.out w2).mono ?_
       rintro y2 w3 ⟨rfl, hl3⟩
       have HRF3 := Lib.hid (HRF2.out.after hl3)
       clear hl3
       go_upto_region 12 with fail
       obtain ⟨Ln, hLn⟩ : ∃ Ln, T1 ++ ⟨#[32]⟩ ++ T ++ ⟨#[10]⟩ = Ln := ⟨_, rfl⟩
       rw [hLn]
       have hLd : Ln.data.toList = Lib.itoa n0 ++ 32 :: t ++ [10] := by rw [← hLn, HT1.out, HS.out.2.1]; simp
       have hLs : Ln.size = (Lib.itoa n0 ++ 32 :: t ++ [10]).length := by rw [← hLd, Lib.size_eq]
       have hLb : Ln.size ≤ 100000000 := by rw [← hLn]; simp only [ByteArray.size_append]; show T1.size + 1 + T.size + 1 ≤ _; omega
       obtain ⟨z2, hz2⟩ : ∃ z2, z + Ln.size = z2 := ⟨_, rfl⟩
       have hkb := HBL.out
       have a5 : IntKind.i64.wrap ((z : Int) + (Ln.size : Int)) = (z2 : Int) := by
        rw [show (z : Int) + (Ln.size : Int) = (z2 : Int) by omega]
        exact IntWalk.i64_in _ (by omega)
       have HLD := Lib.hid (And.intro hLd (And.intro hLs hz2))
       have hown := HRF3.out.own
       rw [HA.out.2.2] at hown
       have hbg := HRF3.out.big
       have HZB := Lib.hid (show z2 ≤ (k + 1) * 100000000 by omega)
       clear hLn hLd hLs hz2 k1 k2 k3 hT1s hTb
       go_wp2_with (at_builtin; refine wpList_append_own _ rfl _ _ 29 rfl (w.heap.size + 1) 9 i0 _ 1 16 Tryz.underlying29 HI.out.1 HI.out.2.1 HI.out.2.2.1 HI.out.2.2.2 rfl (by decide) _ _ _ rfl (hown.alloc _) ⟨w3.heap.size, 0, none⟩ 1 1 [.string (Ln)] rfl rfl (cell_one_new _ _ _) (by simp [Value.oneCell']) ?c3 ?c4 ?c5 ?_)
       case c3 => unfold maxLen; omega
       case c4 => omega
       case c5 => simp; omega
       intro v6 w6 hown6 hgrow _
       have HREL := Lib.hid (HRF3.out.push HLD.out.1 _ (by rw [HA.out.2.2]; exact hown6) (by rw [HA.out.2.2]; exact hgrow))
       have HF2 := Lib.hid (show (L ++ [Lib.itoa n0 ++ 32 :: t ++ [10]]).flatten.length = z2 ∧ entsL (es.take (k + 1)) = some (L ++ [Lib.itoa n0 ++ 32 :: t ++ [10]]).flatten ∧ (L ++ [Lib.itoa n0 ++ 32 :: t ++ [10]]).length = k + 1 by
        have h1 : (L ++ [Lib.itoa n0 ++ 32 :: t ++ [10]]).flatten = L.flatten ++ (Lib.itoa n0 ++ 32 :: t ++ [10]) := by simp
        refine ⟨?_, ?_, by rw [List.length_append, HA.out.2.2]; rfl⟩
        ·rw [h1, List.length_append, HA.out.2.1, ← HLD.out.2.1, HLD.out.2.2]
        ·rw [h1, HTK.out, HENT.out]
         rfl)
       clear hown hown6 hgrow hbg hkb hLb
       go_wp2_with fail
       go_roundw
       case rel => exact ⟨k + 1, _, z2, by omega, by go_num, rfl, HF2.out.1, HF2.out.2.1, HF2.out.2.2, HZB.out, HREL.out⟩
       case measure => simp [RowKit.intOf]; omega
  ·have HALL := Lib.hid (show entsL es = some L.flatten by
    have h := HA.out.1
    rwa [List.take_of_length_le (by have := HNM.out.1; omega)] at h)
   obtain ⟨A, hAA⟩ : ∃ A, L.flatten = A := ⟨_, rfl⟩
   have hAl : A.length = z := by rw [← hAA]; exact HA.out.2.1
   have HAA := Lib.hid (And.intro hAA hAl)
   have d0 : decide ((k : Int) < (n : Int)) = false := decide_eq_false (by omega)
   have hkk : k = n := by omega
   have hown := HRF.out.own
   have HZB := Lib.hid (show z ≤ 409600000000 ∧ L.length ≤ 4096 by have := HBL.out; have := HA.out.2.2; exact ⟨by omega, by omega⟩)
   clear HEV hAA hAl hkk hown
   go_wp2_with fail
   go_loopw [4, 5, 10, 11] (fun o s ln i wr => ∃ (j : Nat) (L2 : List (List UInt8)) (z2 : Nat) (cur : List UInt8), j ≤ m ∧ i = .int .i64 j ∧ s = .int .i64 (z2 : Int) ∧ ln = .string ⟨cur.toArray⟩ ∧ L2.flatten.length = z2 ∧ L2.flatten ++ curF m j cur = A ++ pkF m 0 (ps.take j) ∧ L2.length ≤ 4096 + j ∧ RF w (.slice ae n ce) (.slice ap m cp) L2 o wr) (fun _ _ _ i _ => m - (RowKit.intOf i).toNat)
   case atStart => exact ⟨0, L, z, [], Nat.zero_le _, rfl, rfl, rfl, HA.out.2.1, by simp [curF, pkF, HAA.out.1], HZB.out.2, by have h := HRF.out; rw [HA.out.2.2] at h; exact h⟩
   case round =>
    obtain ⟨j, L2, z2, cur, hj, rfl, rfl, rfl, hz2, heq, hL2, hrf⟩ := hrel
    rename World => wq
    have HR2 := Lib.hid hrf
    have HEQ := Lib.hid (And.intro heq hz2)
    obtain ⟨ov2, oc2, rfl⟩ := slice_of_own hrf.own
    have c1 : wq.cell? ⟨w.heap.size, 1, none⟩ = some (.slice ap m cp) := by rw [Lib.cell_of_heap hrf.box]; rfl
    have hpl := pks_lenR m (ps.take j) (fun p hp => HFIT.out.2 p (List.mem_of_mem_take hp)) 0
    rw [List.length_take] at hpl
    have hlen := congrArg List.length heq
    rw [List.length_append, List.length_append, hz2, HAA.out.2] at hlen
    have HLEN := Lib.hid (show z2 + (curF m j cur).length ≤ 409602000000 by have := HBL.out; have := HZB.out; omega)
    clear hz2 heq hrf hpl hlen
    by_cases hlt2 : j < m
    ·have hX := HPV.out wq HR2.out.later
     obtain ⟨ap', cp', hvv, h0 | ⟨X, off, rfl, hrg⟩⟩ := hX
     ·have := HNM.out.2; omega
     ·injection hvv with q1 q2 q3
      subst q1
      have hqe : j < ps.length := by have := HNM.out.2; omega
      obtain ⟨p, hp⟩ : ∃ p, ps[j]? = some p := ⟨_, List.getElem?_eq_getElem hqe⟩
      have hcp := hrg j hqe
      have hgd : ps.getD j 0 = p := by rw [List.getD_eq_getElem?_getD, hp]; rfl
      rw [hgd] at hcp
      have hin := HFIT.out.2 p (List.mem_of_getElem? hp)
      have hil := itoa_len p hin.1 hin.2
      obtain ⟨T1, hT1⟩ : ∃ T1 : ByteArray, T1 = ⟨(Lib.itoa p).toArray⟩ := ⟨_, rfl⟩
      have hTs : T1.size ≤ 21 := by rw [hT1, size_mk]; exact hil
      have HSG := Lib.hid (fun V => show Calls Tryz.prog 72 #[.int .i64 p] V fun e w' => e = .returned (.string T1) ∧ Later V w' by rw [hT1]; exact refSigned_is p hin V)
      have HPK := Lib.hid (pkF_take m hp)
      have HT1 := Lib.hid hT1
      have hbl := HBL.out
      have d0 : decide ((j : Int) < (m : Int)) = true := decide_eq_true (by omega)
      have b2 : ¬ 9223372036854775807 < 1 + T1.size := by omega
      clear hp hgd hin hil hT1 hqe q2 q3 hrg
      by_cases h1 : j % 16 = 0
      ·by_cases h2 : j + 1 = m
       ·skip
        have t0 : ((j : Int) % 16 == 0) = true := by simp; omega
        have t15 : ((j : Int) % 16 == 15) = false := by simp; omega
        have tl : ((j : Int) == (m : Int) - 1) = true := by simp; omega
        have wl : IntKind.i64.wrap ((m : Int) - 1) = (m : Int) - 1 := IntWalk.i64_in _ (by omega)
        have hcb : ByteArray.size ⟨#[112, 105, 99, 107, 115]⟩ = 5 := rfl
        have b3 : ¬ 9223372036854775807 < 5 + (1 + T1.size) := by omega
        have HCD := Lib.hid (show (⟨#[112, 105, 99, 107, 115]⟩ : ByteArray).data.toList = picksN from rfl)
        have hCs : ByteArray.size ⟨#[112, 105, 99, 107, 115]⟩ ≤ 409602000000 := by decide
        have HPB := Lib.hid (show L2.flatten ++ (picksN ++ (32 :: Lib.itoa p ++ [10])) = A ++ pkF m 0 (ps.take (j + 1)) by
         have h := HEQ.out.1
         rw [HPK.out, ← List.append_assoc A, ← h]
         unfold curF pkB
         rw [if_pos (by omega), if_pos (by omega), if_pos (by omega)]
         simp)
        have HJ := Lib.hid (show j % 16 = 15 ∨ j + 1 = m by omega)
        clear h1 h2
        go_wp2_with fail
        refine (HSG.out wq).mono ?_
        rintro y4 w4 ⟨rfl, hl4⟩
        have HR4 := Lib.hid (HR2.out.after hl4)
        have c4 : w4.cell? ⟨w.heap.size, 1, none⟩ = some (.slice (some ⟨X, off, none⟩) m cp) := by rw [Lib.cell_of_heap HR4.out.box]; rfl
        clear hl4 c1 hcp
        go_upto_region 21 with fail
        obtain ⟨Ln, hLn⟩ : ∃ Ln, ⟨#[112, 105, 99, 107, 115]⟩ ++ (⟨#[32]⟩ ++ T1) = Ln := ⟨_, rfl⟩
        rw [hLn]
        have hLd : Ln.data.toList = picksN ++ 32 :: Lib.itoa p := by rw [← hLn]; simp only [ByteArray.data_append, Array.toList_append]; rw [HCD.out, HT1.out]; simp
        have hLs : Ln.size ≤ 409602000022 := by rw [← hLn]; simp only [ByteArray.size_append]; have h1 : ByteArray.size ⟨#[32]⟩ = 1 := rfl; omega
        have hLe := Lib.size_eq Ln
        rw [hLd] at hLe
        obtain ⟨z3, hz3⟩ : ∃ z3, z2 + Ln.size = z3 := ⟨_, rfl⟩
        obtain ⟨z4, hz4⟩ : ∃ z4, z3 + 1 = z4 := ⟨_, rfl⟩
        have hlen := HLEN.out
        have a5 : IntKind.i64.wrap ((z2 : Int) + (Ln.size : Int)) = (z3 : Int) := by
         rw [show (z2 : Int) + (Ln.size : Int) = (z3 : Int) by omega]
         exact IntWalk.i64_in _ (by omega)
        have a6 : IntKind.i64.wrap ((z3 : Int) + 1) = (z4 : Int) := by
         rw [show (z3 : Int) + 1 = (z4 : Int) by omega]
         exact IntWalk.i64_in _ (by omega)
        have b4 : ¬ 9223372036854775807 < Ln.size + 1 := by omega
        have hown := HR4.out.own
        have hbg := HR4.out.big
        have HLD := Lib.hid (show (Ln ++ ⟨#[10]⟩ : ByteArray).data.toList = picksN ++ (32 :: Lib.itoa p ++ [10]) by simp only [ByteArray.data_append, Array.toList_append]; rw [hLd]; simp)
        have HZ4 := Lib.hid (show L2.flatten.length + (picksN ++ (32 :: Lib.itoa p ++ [10])).length = z4 by rw [HEQ.out.2]; simp only [List.length_append, List.length_cons, List.length_nil] at hLe ⊢; omega)
        clear hLn hLd hLe hz3 hz4 b2 b3 hCs hTs hlen hcb
        go_wp2_with (at_builtin; refine wpList_append_own _ rfl _ _ 29 rfl (w.heap.size + 1) 9 i0 _ 1 16 Tryz.underlying29 HI.out.1 HI.out.2.1 HI.out.2.2.1 HI.out.2.2.2 rfl (by decide) _ _ _ rfl (hown.alloc _) ⟨w4.heap.size, 0, none⟩ 1 1 [.string (Ln ++ ⟨#[10]⟩)] rfl rfl (cell_one_new _ _ _) (by simp [Value.oneCell']) ?c3 ?c4 ?c5 ?_)
        case c3 => unfold maxLen; omega
        case c4 => omega
        case c5 => simp; omega
        intro v6 w6 hown6 hgrow _
        have HREL := Lib.hid (HR4.out.push HLD.out _ hown6 hgrow)
        have HF2 := Lib.hid (show (L2 ++ [picksN ++ (32 :: Lib.itoa p ++ [10])]).flatten.length = z4 ∧ (L2 ++ [picksN ++ (32 :: Lib.itoa p ++ [10])]).flatten ++ curF m (j + 1) Ln.data.toList = A ++ pkF m 0 (ps.take (j + 1)) ∧ (L2 ++ [picksN ++ (32 :: Lib.itoa p ++ [10])]).length ≤ 4096 + (j + 1) by
         have h1 : (L2 ++ [picksN ++ (32 :: Lib.itoa p ++ [10])]).flatten = L2.flatten ++ (picksN ++ (32 :: Lib.itoa p ++ [10])) := by simp
         refine ⟨by rw [h1, List.length_append]; exact HZ4.out, ?_, by rw [List.length_append]; simp; omega⟩
         unfold curF
         rw [if_pos (by have := HJ.out; omega), List.append_nil, h1]
         exact HPB.out)
        clear hown hown6 hgrow hbg
        go_wp2_with fail
        go_roundw
        case rel => exact ⟨j + 1, _, z4, Ln.data.toList, by omega, by go_num, rfl, rfl, HF2.out.1, HF2.out.2.1, HF2.out.2.2, HREL.out⟩
        case measure => simp [RowKit.intOf]; omega
       ·skip
        have t0 : ((j : Int) % 16 == 0) = true := by simp; omega
        have t15 : ((j : Int) % 16 == 15) = false := by simp; omega
        have tl : ((j : Int) == (m : Int) - 1) = false := by simp; omega
        have wl : IntKind.i64.wrap ((m : Int) - 1) = (m : Int) - 1 := IntWalk.i64_in _ (by omega)
        have hcb : ByteArray.size ⟨#[112, 105, 99, 107, 115]⟩ = 5 := rfl
        have b3 : ¬ 9223372036854775807 < 5 + (1 + T1.size) := by omega
        have HCD := Lib.hid (show (⟨#[112, 105, 99, 107, 115]⟩ : ByteArray).data.toList = picksN from rfl)
        have hCs : ByteArray.size ⟨#[112, 105, 99, 107, 115]⟩ ≤ 409602000000 := by decide
        have HPB := Lib.hid (show L2.flatten ++ (picksN ++ (32 :: Lib.itoa p ++ [])) = A ++ pkF m 0 (ps.take (j + 1)) by
         have h := HEQ.out.1
         rw [HPK.out, ← List.append_assoc A, ← h]
         unfold curF pkB
         rw [if_pos (by omega), if_pos (by omega), if_neg (by omega)]
         simp)
        have HJ := Lib.hid (show ¬ (j % 16 = 15 ∨ j + 1 = m) by omega)
        clear h1 h2
        go_wp2_with fail
        refine (HSG.out wq).mono ?_
        rintro y4 w4 ⟨rfl, hl4⟩
        have HR4 := Lib.hid (HR2.out.after hl4)
        have c4 : w4.cell? ⟨w.heap.size, 1, none⟩ = some (.slice (some ⟨X, off, none⟩) m cp) := by rw [Lib.cell_of_heap HR4.out.box]; rfl
        clear hl4 c1 hcp
        go_upto_region 21 with fail
        obtain ⟨Ln, hLn⟩ : ∃ Ln, ⟨#[112, 105, 99, 107, 115]⟩ ++ (⟨#[32]⟩ ++ T1) = Ln := ⟨_, rfl⟩
        rw [hLn]
        have hLd : Ln.data.toList = picksN ++ 32 :: Lib.itoa p := by rw [← hLn]; simp only [ByteArray.data_append, Array.toList_append]; rw [HCD.out, HT1.out]; simp
        have hLs : Ln.size ≤ 409602000022 := by rw [← hLn]; simp only [ByteArray.size_append]; have h1 : ByteArray.size ⟨#[32]⟩ = 1 := rfl; omega
        have HF2 := Lib.hid (show L2.flatten ++ curF m (j + 1) Ln.data.toList = A ++ pkF m 0 (ps.take (j + 1)) by
         unfold curF
         rw [if_neg (by have := HJ.out; omega), hLd, ← HPB.out]
         simp)
        clear hLn hLd b2 b3 hCs hTs hcb
        go_wp2_with fail
        go_roundw
        case rel => exact ⟨j + 1, L2, z2, Ln.data.toList, by omega, by go_num, rfl, rfl, HEQ.out.2, HF2.out, by omega, HR4.out⟩
        case measure => simp [RowKit.intOf]; omega
      ·by_cases h15 : j % 16 = 15
       ·skip
        have t0 : ((j : Int) % 16 == 0) = false := by simp; omega
        have t15 : ((j : Int) % 16 == 15) = true := by simp; omega
        obtain ⟨Cu, hCu⟩ : ∃ C : ByteArray, ⟨cur.toArray⟩ = C := ⟨_, rfl⟩
        have hCl : (curF m j cur).length = cur.length := by unfold curF; rw [if_neg (by omega)]
        have hCs : Cu.size ≤ 409602000000 := by rw [← hCu, size_mk]; have := HLEN.out; omega
        rw [hCu]
        have HCD := Lib.hid (show Cu.data.toList = cur by rw [← hCu])
        have b3 : ¬ 9223372036854775807 < Cu.size + (1 + T1.size) := by omega
        clear hCu hCl
        have HPB := Lib.hid (show L2.flatten ++ (cur ++ (32 :: Lib.itoa p ++ [10])) = A ++ pkF m 0 (ps.take (j + 1)) by
         have h := HEQ.out.1
         rw [HPK.out, ← List.append_assoc A, ← h]
         unfold curF pkB
         rw [if_neg (by omega), if_neg (by omega), if_pos (by omega)]
         simp)
        have HJ := Lib.hid (show j % 16 = 15 ∨ j + 1 = m by omega)
        clear h1 h15
        go_wp2_with fail
        refine (HSG.out wq).mono ?_
        rintro y4 w4 ⟨rfl, hl4⟩
        have HR4 := Lib.hid (HR2.out.after hl4)
        have c4 : w4.cell? ⟨w.heap.size, 1, none⟩ = some (.slice (some ⟨X, off, none⟩) m cp) := by rw [Lib.cell_of_heap HR4.out.box]; rfl
        clear hl4 c1 hcp
        go_upto_region 21 with fail
        obtain ⟨Ln, hLn⟩ : ∃ Ln, Cu ++ (⟨#[32]⟩ ++ T1) = Ln := ⟨_, rfl⟩
        rw [hLn]
        have hLd : Ln.data.toList = cur ++ 32 :: Lib.itoa p := by rw [← hLn]; simp only [ByteArray.data_append, Array.toList_append]; rw [HCD.out, HT1.out]; simp
        have hLs : Ln.size ≤ 409602000022 := by rw [← hLn]; simp only [ByteArray.size_append]; have h1 : ByteArray.size ⟨#[32]⟩ = 1 := rfl; omega
        have hLe := Lib.size_eq Ln
        rw [hLd] at hLe
        obtain ⟨z3, hz3⟩ : ∃ z3, z2 + Ln.size = z3 := ⟨_, rfl⟩
        obtain ⟨z4, hz4⟩ : ∃ z4, z3 + 1 = z4 := ⟨_, rfl⟩
        have hlen := HLEN.out
        have a5 : IntKind.i64.wrap ((z2 : Int) + (Ln.size : Int)) = (z3 : Int) := by
         rw [show (z2 : Int) + (Ln.size : Int) = (z3 : Int) by omega]
         exact IntWalk.i64_in _ (by omega)
        have a6 : IntKind.i64.wrap ((z3 : Int) + 1) = (z4 : Int) := by
         rw [show (z3 : Int) + 1 = (z4 : Int) by omega]
         exact IntWalk.i64_in _ (by omega)
        have b4 : ¬ 9223372036854775807 < Ln.size + 1 := by omega
        have hown := HR4.out.own
        have hbg := HR4.out.big
        have HLD := Lib.hid (show (Ln ++ ⟨#[10]⟩ : ByteArray).data.toList = cur ++ (32 :: Lib.itoa p ++ [10]) by simp only [ByteArray.data_append, Array.toList_append]; rw [hLd]; simp)
        have HZ4 := Lib.hid (show L2.flatten.length + (cur ++ (32 :: Lib.itoa p ++ [10])).length = z4 by rw [HEQ.out.2]; simp only [List.length_append, List.length_cons, List.length_nil] at hLe ⊢; omega)
        clear hLn hLd hLe hz3 hz4 b2 b3 hCs hTs hlen
        go_wp2_with (at_builtin; refine wpList_append_own _ rfl _ _ 29 rfl (w.heap.size + 1) 9 i0 _ 1 16 Tryz.underlying29 HI.out.1 HI.out.2.1 HI.out.2.2.1 HI.out.2.2.2 rfl (by decide) _ _ _ rfl (hown.alloc _) ⟨w4.heap.size, 0, none⟩ 1 1 [.string (Ln ++ ⟨#[10]⟩)] rfl rfl (cell_one_new _ _ _) (by simp [Value.oneCell']) ?c3 ?c4 ?c5 ?_)
        case c3 => unfold maxLen; omega
        case c4 => omega
        case c5 => simp; omega
        intro v6 w6 hown6 hgrow _
        have HREL := Lib.hid (HR4.out.push HLD.out _ hown6 hgrow)
        have HF2 := Lib.hid (show (L2 ++ [cur ++ (32 :: Lib.itoa p ++ [10])]).flatten.length = z4 ∧ (L2 ++ [cur ++ (32 :: Lib.itoa p ++ [10])]).flatten ++ curF m (j + 1) Ln.data.toList = A ++ pkF m 0 (ps.take (j + 1)) ∧ (L2 ++ [cur ++ (32 :: Lib.itoa p ++ [10])]).length ≤ 4096 + (j + 1) by
         have h1 : (L2 ++ [cur ++ (32 :: Lib.itoa p ++ [10])]).flatten = L2.flatten ++ (cur ++ (32 :: Lib.itoa p ++ [10])) := by simp
         refine ⟨by rw [h1, List.length_append]; exact HZ4.out, ?_, by rw [List.length_append]; simp; omega⟩
         unfold curF
         rw [if_pos (by have := HJ.out; omega), List.append_nil, h1]
         exact HPB.out)
        clear hown hown6 hgrow hbg
        go_wp2_with fail
        go_roundw
        case rel => exact ⟨j + 1, _, z4, Ln.data.toList, by omega, by go_num, rfl, rfl, HF2.out.1, HF2.out.2.1, HF2.out.2.2, HREL.out⟩
        case measure => simp [RowKit.intOf]; omega
       ·by_cases h2 : j + 1 = m
        ·skip
         have t0 : ((j : Int) % 16 == 0) = false := by simp; omega
         have t15 : ((j : Int) % 16 == 15) = false := by simp; omega
         have tl : ((j : Int) == (m : Int) - 1) = true := by simp; omega
         have wl : IntKind.i64.wrap ((m : Int) - 1) = (m : Int) - 1 := IntWalk.i64_in _ (by omega)
         obtain ⟨Cu, hCu⟩ : ∃ C : ByteArray, ⟨cur.toArray⟩ = C := ⟨_, rfl⟩
         have hCl : (curF m j cur).length = cur.length := by unfold curF; rw [if_neg (by omega)]
         have hCs : Cu.size ≤ 409602000000 := by rw [← hCu, size_mk]; have := HLEN.out; omega
         rw [hCu]
         have HCD := Lib.hid (show Cu.data.toList = cur by rw [← hCu])
         have b3 : ¬ 9223372036854775807 < Cu.size + (1 + T1.size) := by omega
         clear hCu hCl
         have HPB := Lib.hid (show L2.flatten ++ (cur ++ (32 :: Lib.itoa p ++ [10])) = A ++ pkF m 0 (ps.take (j + 1)) by
          have h := HEQ.out.1
          rw [HPK.out, ← List.append_assoc A, ← h]
          unfold curF pkB
          rw [if_neg (by omega), if_neg (by omega), if_pos (by omega)]
          simp)
         have HJ := Lib.hid (show j % 16 = 15 ∨ j + 1 = m by omega)
         clear h1 h15 h2
         go_wp2_with fail
         refine (HSG.out wq).mono ?_
         rintro y4 w4 ⟨rfl, hl4⟩
         have HR4 := Lib.hid (HR2.out.after hl4)
         have c4 : w4.cell? ⟨w.heap.size, 1, none⟩ = some (.slice (some ⟨X, off, none⟩) m cp) := by rw [Lib.cell_of_heap HR4.out.box]; rfl
         clear hl4 c1 hcp
         go_upto_region 21 with fail
         obtain ⟨Ln, hLn⟩ : ∃ Ln, Cu ++ (⟨#[32]⟩ ++ T1) = Ln := ⟨_, rfl⟩
         rw [hLn]
         have hLd : Ln.data.toList = cur ++ 32 :: Lib.itoa p := by rw [← hLn]; simp only [ByteArray.data_append, Array.toList_append]; rw [HCD.out, HT1.out]; simp
         have hLs : Ln.size ≤ 409602000022 := by rw [← hLn]; simp only [ByteArray.size_append]; have h1 : ByteArray.size ⟨#[32]⟩ = 1 := rfl; omega
         have hLe := Lib.size_eq Ln
         rw [hLd] at hLe
         obtain ⟨z3, hz3⟩ : ∃ z3, z2 + Ln.size = z3 := ⟨_, rfl⟩
         obtain ⟨z4, hz4⟩ : ∃ z4, z3 + 1 = z4 := ⟨_, rfl⟩
         have hlen := HLEN.out
         have a5 : IntKind.i64.wrap ((z2 : Int) + (Ln.size : Int)) = (z3 : Int) := by
          rw [show (z2 : Int) + (Ln.size : Int) = (z3 : Int) by omega]
          exact IntWalk.i64_in _ (by omega)
         have a6 : IntKind.i64.wrap ((z3 : Int) + 1) = (z4 : Int) := by
          rw [show (z3 : Int) + 1 = (z4 : Int) by omega]
          exact IntWalk.i64_in _ (by omega)
         have b4 : ¬ 9223372036854775807 < Ln.size + 1 := by omega
         have hown := HR4.out.own
         have hbg := HR4.out.big
         have HLD := Lib.hid (show (Ln ++ ⟨#[10]⟩ : ByteArray).data.toList = cur ++ (32 :: Lib.itoa p ++ [10]) by simp only [ByteArray.data_append, Array.toList_append]; rw [hLd]; simp)
         have HZ4 := Lib.hid (show L2.flatten.length + (cur ++ (32 :: Lib.itoa p ++ [10])).length = z4 by rw [HEQ.out.2]; simp only [List.length_append, List.length_cons, List.length_nil] at hLe ⊢; omega)
         clear hLn hLd hLe hz3 hz4 b2 b3 hCs hTs hlen
         go_wp2_with (at_builtin; refine wpList_append_own _ rfl _ _ 29 rfl (w.heap.size + 1) 9 i0 _ 1 16 Tryz.underlying29 HI.out.1 HI.out.2.1 HI.out.2.2.1 HI.out.2.2.2 rfl (by decide) _ _ _ rfl (hown.alloc _) ⟨w4.heap.size, 0, none⟩ 1 1 [.string (Ln ++ ⟨#[10]⟩)] rfl rfl (cell_one_new _ _ _) (by simp [Value.oneCell']) ?c3 ?c4 ?c5 ?_)
         case c3 => unfold maxLen; omega
         case c4 => omega
         case c5 => simp; omega
         intro v6 w6 hown6 hgrow _
         have HREL := Lib.hid (HR4.out.push HLD.out _ hown6 hgrow)
         have HF2 := Lib.hid (show (L2 ++ [cur ++ (32 :: Lib.itoa p ++ [10])]).flatten.length = z4 ∧ (L2 ++ [cur ++ (32 :: Lib.itoa p ++ [10])]).flatten ++ curF m (j + 1) Ln.data.toList = A ++ pkF m 0 (ps.take (j + 1)) ∧ (L2 ++ [cur ++ (32 :: Lib.itoa p ++ [10])]).length ≤ 4096 + (j + 1) by
          have h1 : (L2 ++ [cur ++ (32 :: Lib.itoa p ++ [10])]).flatten = L2.flatten ++ (cur ++ (32 :: Lib.itoa p ++ [10])) := by simp
          refine ⟨by rw [h1, List.length_append]; exact HZ4.out, ?_, by rw [List.length_append]; simp; omega⟩
          unfold curF
          rw [if_pos (by have := HJ.out; omega), List.append_nil, h1]
          exact HPB.out)
         clear hown hown6 hgrow hbg
         go_wp2_with fail
         go_roundw
         case rel => exact ⟨j + 1, _, z4, Ln.data.toList, by omega, by go_num, rfl, rfl, HF2.out.1, HF2.out.2.1, HF2.out.2.2, HREL.out⟩
         case measure => simp [RowKit.intOf]; omega
        ·skip
         have t0 : ((j : Int) % 16 == 0) = false := by simp; omega
         have t15 : ((j : Int) % 16 == 15) = false := by simp; omega
         have tl : ((j : Int) == (m : Int) - 1) = false := by simp; omega
         have wl : IntKind.i64.wrap ((m : Int) - 1) = (m : Int) - 1 := IntWalk.i64_in _ (by omega)
         obtain ⟨Cu, hCu⟩ : ∃ C : ByteArray, ⟨cur.toArray⟩ = C := ⟨_, rfl⟩
         have hCl : (curF m j cur).length = cur.length := by unfold curF; rw [if_neg (by omega)]
         have hCs : Cu.size ≤ 409602000000 := by rw [← hCu, size_mk]; have := HLEN.out; omega
         rw [hCu]
         have HCD := Lib.hid (show Cu.data.toList = cur by rw [← hCu])
         have b3 : ¬ 9223372036854775807 < Cu.size + (1 + T1.size) := by omega
         clear hCu hCl
         have HPB := Lib.hid (show L2.flatten ++ (cur ++ (32 :: Lib.itoa p ++ [])) = A ++ pkF m 0 (ps.take (j + 1)) by
          have h := HEQ.out.1
          rw [HPK.out, ← List.append_assoc A, ← h]
          unfold curF pkB
          rw [if_neg (by omega), if_neg (by omega), if_neg (by omega)]
          simp)
         have HJ := Lib.hid (show ¬ (j % 16 = 15 ∨ j + 1 = m) by omega)
         clear h1 h15 h2
         go_wp2_with fail
         refine (HSG.out wq).mono ?_
         rintro y4 w4 ⟨rfl, hl4⟩
         have HR4 := Lib.hid (HR2.out.after hl4)
         have c4 : w4.cell? ⟨w.heap.size, 1, none⟩ = some (.slice (some ⟨X, off, none⟩) m cp) := by rw [Lib.cell_of_heap HR4.out.box]; rfl
         clear hl4 c1 hcp
         go_upto_region 21 with fail
         obtain ⟨Ln, hLn⟩ : ∃ Ln, Cu ++ (⟨#[32]⟩ ++ T1) = Ln := ⟨_, rfl⟩
         rw [hLn]
         have hLd : Ln.data.toList = cur ++ 32 :: Lib.itoa p := by rw [← hLn]; simp only [ByteArray.data_append, Array.toList_append]; rw [HCD.out, HT1.out]; simp
         have hLs : Ln.size ≤ 409602000022 := by rw [← hLn]; simp only [ByteArray.size_append]; have h1 : ByteArray.size ⟨#[32]⟩ = 1 := rfl; omega
         have HF2 := Lib.hid (show L2.flatten ++ curF m (j + 1) Ln.data.toList = A ++ pkF m 0 (ps.take (j + 1)) by
          unfold curF
          rw [if_neg (by have := HJ.out; omega), hLd, ← HPB.out]
          simp)
         clear hLn hLd b2 b3 hCs hTs
         go_wp2_with fail
         go_roundw
         case rel => exact ⟨j + 1, L2, z2, Ln.data.toList, by omega, by go_num, rfl, rfl, HEQ.out.2, HF2.out, by omega, HR4.out⟩
         case measure => simp [RowKit.intOf]; omega
    ·have hjm : j = m := by omega
     have HTXT := Lib.hid (show L2.flatten = A ++ pkF m 0 ps by
      have h := HEQ.out.1
      rw [hjm] at h
      unfold curF at h
      rw [if_pos (.inr rfl), List.append_nil, List.take_of_length_le (by have := HNM.out.2; omega)] at h
      exact h)
     have d0 : decide ((j : Int) < (m : Int)) = false := decide_eq_false (by omega)
     have hbl := HBL.out
     have HSL := Lib.hid (SL.of_owns HR2.out.own)
     have HZ2 := Lib.hid HEQ.out.2
     by_cases hbig : 262144 < z2
     ·have t1 : decide ((262144 : Int) < (z2 : Int)) = true := decide_eq_true (by omega)
      have HF := Lib.hid (show FmEnd res w (.returned (.tuple #[.string ⟨#[]⟩, .int .i64 3])) wq by
       rw [HRES.out, HALL.out]
       show FmEnd (if _ then _ else _) _ _ _
       rw [HAA.out.1, ← HTXT.out, HEQ.out.2, if_pos hbig]
       exact ⟨HR2.out.later, rfl⟩)
      clear hbig hjm
      go_wp2_with fail
      go_ret2
      exact HF.out
     ·have t1 : decide ((262144 : Int) < (z2 : Int)) = false := decide_eq_false (by omega)
      have hsum : sumL L2 = z2 := by rw [← HEQ.out.2]; simp [sumL, List.length_flatten]
      have HALLC := Lib.hid (refAll_is (.slice ov2 L2.length oc2) L2 wq HSL.out (by rw [hsum]; omega))
      have HF := Lib.hid (fun w' (hl : Later wq w') => show FmEnd res w (.returned (.tuple #[.string ⟨L2.flatten.toArray⟩, .int .i64 0])) w' by
       rw [HRES.out, HALL.out]
       show FmEnd (if _ then _ else _) _ _ _
       rw [HAA.out.1, ← HTXT.out, HEQ.out.2, if_neg hbig]
       exact ⟨HR2.out.later.trans hl, rfl⟩)
      obtain ⟨TT, hTT⟩ : ∃ TT : ByteArray, ⟨L2.flatten.toArray⟩ = TT := ⟨_, rfl⟩
      rw [hTT] at HALLC HF
      clear hbig hjm hsum hTT
      go_wp2_with fail
      refine HALLC.out.mono ?_
      rintro y5 w5 ⟨rfl, hl5⟩
      have HFF := Lib.hid (HF.out w5 hl5)
      clear hl5
      go_wp2_with fail
      go_ret2
      exact HFF.out
end Go.Proofs.YtkbedajbbakihaaGreatDoor
