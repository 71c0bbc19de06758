/-
 Texts of this proof, put together (Ra): each part's first words say what it holds. Conditions: as each part says.
-/
import Derived.Test.YtkbedajbbakihaaGreatDoorQh
import Derived.Test.YtkbedajbbakihaaGreatDoorQd
import Derived.Deep.MidRow
import Derived.Great.BuildSlice
/-
 ReadAnswer at the lines of errors, values, pairs and of success, walked. Conditions: the text has at most 8 * 10^7 bytes; the listed variables read as laid.
-/
namespace Go.Proofs.YtkbedajbbakihaaGreatDoor
open Go.RowKit Go.Sort Go.Lib
set_option linter.unusedSimpArgs false
set_option linter.unusedVariables false

abbrev Prs := List (List UInt8 × List UInt8)
/-- the lines that are walked, and what they say -/
inductive AnsCase : List (List UInt8) → Option (Int × List UInt8 × Prs) → Prop
 | ok : AnsCase [nOk] (some (0, [], []))
 | err {x : List UInt8} {n : Int} (hn : num x = some n) (h0 : n ≠ 0) : AnsCase [nErr, x] (some (n, [], []))
 | err0 {x : List UInt8} (hn : num x = some 0) : AnsCase [nErr, x] none
 | val {x v : List UInt8} (hx : unword x = some v) (h0 : v ≠ []) : AnsCase [nVal, x] (some (0, v, []))
 | prs {ps : Prs} (h0 : ps ≠ []) (hl : ps.length ≤ 1000) : AnsCase (nPrs :: prW ps) (some (0, [], ps))
/-- how the reader's answer ends -/
def ACEnd (b K : Nat) (res : Option (Int × List UInt8 × Prs)) (w : World) (e : Ending) (w' : World) : Prop := Only b w w' ∧ match res with
 | none => e = wrongE
 | some (n, val, ps) => e = .returned (.tuple #[]) ∧ ∃ v P, RdW b K (ansRow v n val P) [] w' ∧ (w'.ownsRow w.heap.size 112 2 P ps.length (prC ps) ∧ (ps = [] → P = nilS))
theorem answer_case {ws : List (List UInt8)} {res : Option (Int × List UInt8 × Prs)} (hc : AnsCase ws res) (b K : Nat) (v0 : Value) (w : World) (h : RdW b K (ansRow v0 0 [] nilS) ws w) :
  Calls Tryz.prog 87 #[.pointer (some ⟨b, 0, none⟩)] w (ACEnd b K res w) := by
 cases hc with
 | ok => exact (answer_ok b K v0 w h).mono fun e w' ⟨k1, k2, v, k3⟩ => ⟨k1, k2, v, nilS, k3, World.ownsRow_nil _ _ _ _, fun _ => rfl⟩
 | err hn h0 => exact (answer_err b K v0 _ _ hn h0 w h).mono fun e w' ⟨k1, k2, v, k3⟩ => ⟨k1, k2, v, nilS, k3, World.ownsRow_nil _ _ _ _, fun _ => rfl⟩
 | err0 hn => exact (answer_err0 b K v0 _ hn w h).mono fun e w' ⟨k1, k2⟩ => ⟨k2, k1⟩
 | val hx h0 => exact (answer_val b K v0 _ _ hx h0 w h).mono fun e w' ⟨k1, k2, v, k3⟩ => ⟨k1, k2, v, nilS, k3, World.ownsRow_nil _ _ _ _, fun _ => rfl⟩
 | prs h0 hl => exact (answer_pairs b K v0 _ h0 hl w h).mono fun e w' ⟨k1, k2, v, P, k3, k4⟩ => ⟨k1, k2, v, P, k3, k4, fun h => absurd h h0⟩
def oneS (P : Value) : Prop := ∃ a n c, P = .slice a n c
theorem oneS_owns {w : World} {base e s n : Nat} {P : Value} {xs : List Value} (h : w.ownsRow base e s P n xs) : oneS P := by
 rcases h.2 with ⟨rfl, _⟩ | ⟨g, cap, cur, rfl, _⟩
 ·exact ⟨_, _, _, rfl⟩
 ·exact ⟨_, _, _, rfl⟩
theorem ansA_one (n : Int) (val : List UInt8) (P : Value) (h : oneS P) : (ansA n val P).all (·.oneCell') = true := by
 obtain ⟨a, m, c, rfl⟩ := h
 simp [ansA, strV, Value.oneCell']
theorem ansA_info : (Tryz.prog.info? 81).map (·.size) = some 17 := by kernel_rfl
theorem ans_range {b K : Nat} {n : Int} {val : List UInt8} {P v : Value} {ws : List (List UInt8)} {w : World} (h : RdW b K (ansRow v n val P) ws w) : w.rangeAt b 13 (ansA n val P).toList := by
 intro j u hj
 have hlt : j < 17 := by
  rcases Nat.lt_or_ge j 17 with h9 | h9
  ·exact h9
  ·rw [List.getElem?_eq_none (by simp [ansA]; omega)] at hj; cases hj
 rw [Lib.cell_of_heap h.2.2.2.1, ← hj]
 have hj' : j = 0 ∨ j = 1 ∨ j = 2 ∨ j = 3 ∨ j = 4 ∨ j = 5 ∨ j = 6 ∨ j = 7 ∨ j = 8 ∨ j = 9 ∨ j = 10 ∨ j = 11 ∨ j = 12 ∨ j = 13 ∨ j = 14 ∨ j = 15 ∨ j = 16 := by omega
 rcases hj' with rfl | rfl | rfl | rfl | rfl | rfl | rfl | rfl | rfl | rfl | rfl | rfl | rfl | rfl | rfl | rfl | rfl <;> rfl
set_option maxRecDepth 100000 in
theorem enter87 (args : Array Value) (W : World) : (callFunc 87 args).run Tryz.prog W = .ok (.enter 87 args) W := rfl
/-- an answer's cells in a block of their own are the result -/
theorem results56 (tmps : Array Value) (W : World) (R : Nat) (n d : Int) (val : List UInt8) (P : Value) (h2 : tmps.getD 2 undef = .pointer (some ⟨R, 0, none⟩)) (h3 : tmps.getD 3 undef = .int .i64 d) (h : W.heap[R]? = some (.cells (ansA n val P) 81 (0, 0))) :
  (results Tryz.f56 tmps).run Tryz.prog W = .ok (.tuple #[.agg (ansA n val P), .int .i64 d]) W := by
 have hc : ∀ j u, (ansA n val P)[j]? = some u → W.cell? ⟨R, j, none⟩ = some u := fun j u hu => by rw [Lib.cell_of_heap h]; exact hu
 have a0 := hc 0 _ rfl
 have a1 := hc 1 _ rfl
 have a2 := hc 2 _ rfl
 have a3 := hc 3 _ rfl
 have a4 := hc 4 _ rfl
 have a5 := hc 5 _ rfl
 have a6 := hc 6 _ rfl
 have a7 := hc 7 _ rfl
 have a8 := hc 8 _ rfl
 have a9 := hc 9 _ rfl
 have a10 := hc 10 _ rfl
 have a11 := hc 11 _ rfl
 have a12 := hc 12 _ rfl
 have a13 := hc 13 _ rfl
 have a14 := hc 14 _ rfl
 have a15 := hc 15 _ rfl
 have a16 := hc 16 _ rfl
 rw [Array.getD_eq_getD_getElem?] at h2 h3
 simp [results, Tryz.results56, go_sem, h2, h3, a0, a1, a2, a3, a4, a5, a6, a7, a8, a9, a10, a11, a12, a13, a14, a15, a16, ansA]
/-- how ReadAnswer ends -/
def RAEnd (res : Option (Int × List UInt8 × Prs)) (w : World) (e : Ending) (w' : World) : Prop := Later w w' ∧ match res with
 | none => e = .returned (.tuple #[.agg (ansA 0 [] nilS), .int .i64 7])
 | some (n, val, ps) => ∃ P, e = .returned (.tuple #[.agg (ansA n val P), .int .i64 0]) ∧ w'.ownsRow w.heap.size 112 2 P ps.length (prC ps) ∧ (ps = [] → P = nilS)
set_option maxRecDepth 100000 in
set_option maxHeartbeats 4000000 in
theorem ReadAnswer_is (l : List UInt8) (hl : l.length ≤ 80000000) (res : Option (Int × List UInt8 × Prs)) (hc : AnsCase (spl l) res) (w : World) (hw : Laid w) :
  Calls Tryz.prog 56 #[.string ⟨l.toArray⟩] w (RAEnd res w) := by
 have HSP := Lib.hid (fun w1 (h1 : Laid w1) => split_sp l (by omega) w1 h1)
 have HNEW := Lib.hid (fun W1 (h1 : Later w W1) L hL W2 hW2 => rd_new l hl w W1 hw h1 L hL W2 hW2)
 have HLW := Lib.hid hw
 obtain ⟨ws, hws⟩ : ∃ ws, spl l = ws := ⟨_, rfl⟩
 rw [hws] at hc HSP HNEW
 have HCASE := Lib.hid hc
 obtain ⟨n, hn⟩ : ∃ n, ws.length = n := ⟨_, rfl⟩
 rw [hn] at HSP HNEW
 obtain ⟨T, hT⟩ : ∃ T : ByteArray, T = ⟨l.toArray⟩ := ⟨_, rfl⟩
 rw [← hT] at HSP ⊢
 have hmf : ∀ (fn : Fn) (first cap : Array Value) (w : World), (Instr.makeFunc fn first cap).run Tryz.prog w = .ok (.func fn first cap) w := fun _ _ _ _ => rfl
 clear hc hw hl hws hn hT
 go_enter Tryz.func56, Tryz.ntmps56
 go_wp2_with fail
 obtain ⟨R, hR⟩ : ∃ R, w.heap.size = R := ⟨_, rfl⟩
 obtain ⟨W0, hW0⟩ : ∃ W0, w.alloc (.cells (ansA 0 [] nilS) 81) = W0 := ⟨_, rfl⟩
 have hl0 : Later w W0 := by rw [← hW0]; exact (Later.refl w).alloc _
 have hb0 : W0.heap[R]? = some (.cells (ansA 0 [] nilS) 81 (0, 0)) := by rw [← hW0, ← hR]; exact (MapKept.heap_alloc w _).1
 have hR0 : R < W0.heap.size := by rw [← hW0, ← hR]; simp
 simp only [ansA, strV] at hW0
 rw [hR, hW0]
 have HH := Lib.hid (And.intro hl0 (And.intro hb0 (And.intro hR0 hR)))
 clear hR hW0 hl0 hb0 hR0
 refine (HSP.out _ (HLW.out.later HH.out.1)).mono ?_
 rintro e w1 ⟨rfl, hw1⟩
 obtain ⟨L, hL⟩ : ∃ L, W0.heap.size = L := ⟨_, rfl⟩
 have hl1 : Later W0 w1 := by rw [hw1]; exact (Later.refl W0).alloc _
 have hbL : w1.heap[L]? = some (.cells (wsC ws).toArray 9 (0, 0)) := by rw [hw1, ← hL]; exact (MapKept.heap_alloc W0 _).1
 have HH1 := Lib.hid (And.intro hl1 hbL)
 rw [hL]
 clear hw1 hL hl1 hbL
 go_wp2_with fail
 obtain ⟨b, hb⟩ : ∃ b, w1.heap.size = b := ⟨_, rfl⟩
 obtain ⟨W2, hW2⟩ : ∃ W2, w1.alloc (.cells (reqRow req0 (.slice (some ⟨L, 0, none⟩) n n)) 83) = W2 := ⟨_, rfl⟩
 have hq2 := HNEW.out w1 (HH.out.1.trans HH1.out.1) L HH1.out.2 W2 hW2
 have hl2 : Later w1 W2 := by rw [← hW2]; exact (Later.refl w1).alloc _
 have hb2 : b < W2.heap.size := by rw [← hW2, ← hb]; simp
 simp only [reqRow, req0, strV] at hW2
 rw [hW2, hb]
 rw [hb] at hq2
 obtain ⟨K, hK⟩ : ∃ K, W2.heap.size = K := ⟨_, rfl⟩
 have h3 := hq2.later ((Later.refl W2).alloc (.cells #[.bool false] 4))
 obtain ⟨v3, hv3⟩ := h3
 have HT := Lib.hid (try_is 87 #[.pointer (some ⟨b, 0, none⟩)] #[] W2 (fun w1 => ∃ r, res = some r ∧ (∃ v P, RdW b K (ansRow v r.1 r.2.1 P) [] w1 ∧ (w1.ownsRow (W2.alloc (.cells #[.bool false] 4)).heap.size 112 2 P r.2.2.length (prC r.2.2) ∧ (r.2.2 = [] → P = nilS))) ∧ Only b (W2.alloc (.cells #[.bool false] 4)) w1) (fun w1 => res = none ∧ Only b (W2.alloc (.cells #[.bool false] 4)) w1) enter87
  ((answer_case HCASE.out b K v3 _ (by rw [← hK]; exact hv3)).mono fun e w' hQ => by
   obtain ⟨ho, hm⟩ := hQ
   refine ⟨?_, ?_⟩
   ·rw [ho.block W2.heap.size (by simp) (by omega)]
    exact (MapKept.heap_alloc W2 _).1
   ·cases res with
    | none => exact .inr ⟨hm, rfl, ho⟩
    | some r => exact .inl ⟨hm.1, r, rfl, hm.2, ho⟩))
 have HH2 := Lib.hid (And.intro hl2 (And.intro hb2 (And.intro hK hb)))
 rw [hK] at HT
 clear hq2 hv3 hl2 hb2 hb hK hW2
 refine HT.out.mono ?_
 have hrow : ∀ w5 : World, Only b (W2.alloc (.cells #[.bool false] 4)) w5 → ∀ t, (w5.setCell ⟨K, 0, none⟩ (.bool t)).heap[R]? = some (.cells (ansA 0 [] nilS) 81 (0, 0)) ∧ Later w (w5.setCell ⟨K, 0, none⟩ (.bool t)) ∧ Below K w5 (w5.setCell ⟨K, 0, none⟩ (.bool t)) := fun w5 ho t => by
  have hbel : Below K w5 (w5.setCell ⟨K, 0, none⟩ (.bool t)) := (Below.refl K w5).setCell (p := ⟨K, 0, none⟩) (Nat.le_refl _) _
  have s1 := HH1.out.1.size
  have s2 := HH2.out.1.size
  have e2 := HH2.out.2.2.1
  have e3 := HH2.out.2.2.2
  have e4 := HH.out.2.2.1
  have e5 := HH.out.2.2.2
  have hl4 : Later w (W2.alloc (.cells #[.bool false] 4)) := ((HH.out.1.trans HH1.out.1).trans HH2.out.1).alloc _
  have hl5 : Later w w5 := ho.later hl4 (by omega)
  refine ⟨?_, Below.trans hl5 (Below.mono hbel (by omega)), hbel⟩
  rw [hbel.block R (by omega), ho.block R (by simp; omega) (by omega), ((Later.refl W2).alloc (.cells #[.bool false] 4)).block R (by omega), HH2.out.1.block R (by omega), HH1.out.1.block R e4]
  exact HH.out.2.1
 have HROW := Lib.hid hrow
 have hwR : w.heap.size ≤ R := Nat.le_of_eq HH.out.2.2.2
 clear hrow
 rintro e w4 (⟨rfl, w5, ⟨r, hr, ⟨v, P, hv5, hown, hnil⟩, ho⟩, rfl⟩ | ⟨rfl, w5, ⟨hr, ho⟩, rfl⟩)
 ·obtain ⟨d, val, ps⟩ := r
  dsimp only at hv5 hown hnil
  have HNIL := Lib.hid hnil
  clear hnil
  obtain ⟨h1, h2, h3⟩ := HROW.out w5 ho true
  have hv6 := hv5.below h3
  have hrg := ans_range hv6
  have hone := ansA_one d val P (oneS_owns hown)
  have hfin := setRow_heap (w5.setCell ⟨K, 0, none⟩ (.bool true)) R (ansA 0 [] nilS) (ansA d val P) 81 (0, 0) h1
  have hsz : W2.heap.size = K := HH2.out.2.2.1
  have hbase : (W2.alloc (.cells #[.bool false] 4)).heap.size = K + 1 := by simp; omega
  have hown2 : (w5.setCell ⟨K, 0, none⟩ (.bool true)).ownsRow (K + 1) 112 2 P ps.length (prC ps) := own_set (by rw [← hbase]; exact hown) (by omega)
  have hRK : R < K := by have := HH1.out.1.size; have := HH2.out.1.size; have := HH.out.2.2.1; omega
  have hwK : w.heap.size ≤ K + 1 := by omega
  have HOW := Lib.hid (show ((w5.setCell ⟨K, 0, none⟩ (.bool true)).setRow R (ansA d val P)).ownsRow w.heap.size 112 2 P ps.length (prC ps) by
   refine ownsRow_mono (B := K + 1) ?_ hwK
   exact hown2.kept (row := some R) ⟨rfl, rfl, rfl, by simp, fun k _ hk => setRow_other _ R k _ (fun e => hk (by rw [e]))⟩ (.inr (fun e => by have := (hown2.lt R e).1; omega)))
  have HF := Lib.hid (row_later h2 hwR (ansA d val P))
  have HA := Lib.hid (And.intro hrg h1)
  have HFIN := Lib.hid hfin
  have HRES := Lib.hid hr
  obtain ⟨D, hD⟩ : ∃ D, ansA d val P = D := ⟨_, rfl⟩
  obtain ⟨W6, hW6⟩ : ∃ W6, w5.setCell ⟨K, 0, none⟩ (.bool true) = W6 := ⟨_, rfl⟩
  have HDE := Lib.hid hD
  rw [hW6, hD] at HF HA HOW HFIN
  rw [hW6]
  rw [hD] at hone
  have hDs : (Tryz.prog.info? 81).map (·.size) = some D.size := by rw [← hD]; exact ansA_info
  have hDl : (Tryz.prog.info? 81).map (·.size) = some D.toList.length := by rw [Array.length_toList]; exact hDs
  have hDz : (ansA 0 [] nilS).size = D.size := by rw [← hD]; rfl
  have HDD := Lib.hid (And.intro hDs (And.intro hone (And.intro hDl hDz)))
  clear h1 h2 h3 hv6 hrg hfin hv5 ho hW6 hD hDs hone hDl hDz hown hown2 hsz hbase hRK hwK hr
  go_wp2_with (first | (refine wpList_load_mid rfl 81 (.tmp 16) rfl b 13 rfl D.toList _ HA.out.1 Tryz.underlying81 rfl HDD.out.2.2.1 ?_) | (refine wpList_store_rowTo rfl 81 (.tmp 2) (.tmp 17) rfl rfl R D rfl rfl 81 (ansA 0 [] nilS) HA.out.2 HDD.out.1 HDD.out.2.2.2 HDD.out.2.1 ?_))
  refine bodyPost_ret (results56 _ _ R d 0 val P rfl rfl (by rw [HDE.out]; exact HFIN.out)) rfl ?_
  rw [HRES.out]
  exact ⟨HF.out, P, rfl, HOW.out, HNIL.out⟩
 ·obtain ⟨h1, h2, h3⟩ := HROW.out w5 ho false
  have hfin := setRow_heap (w5.setCell ⟨K, 0, none⟩ (.bool false)) R (ansA 0 [] nilS) (ansA 0 [] nilS) 81 (0, 0) h1
  have HF := Lib.hid (row_later h2 hwR (ansA 0 [] nilS))
  have HA := Lib.hid h1
  have HFIN := Lib.hid hfin
  have HRES := Lib.hid hr
  have HON := Lib.hid (ansA_one 0 [] nilS ⟨_, _, _, rfl⟩)
  obtain ⟨W6, hW6⟩ : ∃ W6, w5.setCell ⟨K, 0, none⟩ (.bool false) = W6 := ⟨_, rfl⟩
  rw [hW6] at HF HA HFIN
  rw [hW6]
  clear h1 h2 h3 hfin ho hW6 hr
  go_wp2_with (refine wpList_store_rowTo rfl 81 (.tmp 2) (.tmp 13) rfl rfl R (ansA 0 [] nilS) rfl rfl 81 (ansA 0 [] nilS) HA.out ansA_info rfl HON.out ?_)
  refine bodyPost_ret (results56 _ _ R 0 7 [] nilS rfl rfl HFIN.out) rfl ?_
  rw [HRES.out]
  exact ⟨HF.out, rfl⟩
end Go.Proofs.YtkbedajbbakihaaGreatDoor
