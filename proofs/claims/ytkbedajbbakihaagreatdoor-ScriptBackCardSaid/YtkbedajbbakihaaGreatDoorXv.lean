/-
 Texts of this proof, put together (Bq): each part's first words say what it holds. Conditions: as each part says.
-/
import Derived.Test.YtkbedajbbakihaaGreatDoorXu
import Derived.Test.YtkbedajbbakihaaGreatDoorXa
import Derived.Test.YtkbedajbbakihaaGreatDoorXh
import Derived.Test.YtkbedajbbakihaaGreatDoorXg
import Derived.Test.YtkbedajbbakihaaGreatDoorXe
import Derived.Test.YtkbedajbbakihaaGreatDoorQk
import Derived.Deep.DeepCutAuto
import Derived.Deep.CutBlock
/-
 The law's script put together, walked: ScriptBack, at texts of any length within the form's reach. Conditions: the listed variables read as laid.
-/
namespace Go.Proofs.YtkbedajbbakihaaGreatDoor
open Go.RowKit
set_option linter.unusedSimpArgs false
set_option linter.unusedVariables false

theorem req_fit {N : Nat} (hN : N ≤ 5000000) {r : Req} (h : r.wf) (hl : r.key.length + r.val.length + r.old.length ≤ N) : r.fit := by
 have wfq : ∀ {x : Int}, (Lit.int .u64 x).wf = true → 0 ≤ x ∧ x ≤ 18446744073709551615 := fun {x} h => by
  simp [Lit.wf, IntKind.min, IntKind.max, IntKind.signed, IntKind.bits] at h
  exact h
 exact ⟨⟨wf32 h.hg, wfq h.qk, wfq h.qb, wf64 h.lim⟩, wf8 h.hr, wf8 h.rts, wf64 h.ten, wf64 h.ht, wf64 h.deed, Nat.le_trans hl hN⟩
/-- a request whose unused texts are struck out -/
def cutR (r : Req) : Req := { r with key := (plainR r).key, val := (plainR r).val, old := (plainR r).old }
theorem plD_ten (r : Req) : plD r = 1 ∨ plD r = 2 ∨ plD r = 3 ∨ plD r = 4 ∨ plD r = 5 ∨ plD r = 6 ∨ plD r = 7 ∨ plD r = 8 ∨ plD r = 9 ∨ plD r = 10 := by have := plD_range r; omega
theorem cutR_plain (r : Req) : plainR (cutR r) = plainR r := by
 unfold cutR
 rcases plD_ten r with h | h | h | h | h | h | h | h | h | h
 ·rw [plain_1 r h]; exact plain_1 _ h
 ·rw [plain_2 r h]; exact plain_2 _ h
 ·rw [plain_3 r h]; exact plain_3 _ h
 ·rw [plain_4 r h]; exact plain_4 _ h
 ·rw [plain_5 r h]; exact plain_5 _ h
 ·rw [plain_6 r h]; exact plain_6 _ h
 ·rw [plain_7 r h]; exact plain_7 _ h
 ·rw [plain_8 r h]; exact plain_8 _ h
 ·rw [plain_9 r h]; exact plain_9 _ h
 ·rw [plain_10 r h]; exact plain_10 _ h
theorem szR_plain (r : Req) : szR (plainR r) ≤ szR r := by
 rcases plD_ten r with h | h | h | h | h | h | h | h | h | h
 ·rw [plain_1 r h]; simp only [szR, req0, List.length_nil]; omega
 ·rw [plain_2 r h]; simp only [szR, req0, List.length_nil]; omega
 ·rw [plain_3 r h]; simp only [szR, req0, List.length_nil]; omega
 ·rw [plain_4 r h]; simp only [szR, req0, List.length_nil]; omega
 ·rw [plain_5 r h]; simp only [szR, req0, List.length_nil]; omega
 ·rw [plain_6 r h]; simp only [szR, req0, List.length_nil]; omega
 ·rw [plain_7 r h]; simp only [szR, req0, List.length_nil]; omega
 ·rw [plain_8 r h]; simp only [szR, req0, List.length_nil]; omega
 ·rw [plain_9 r h]; simp only [szR, req0, List.length_nil]; omega
 ·rw [plain_10 r h]; simp only [szR, req0, List.length_nil]; omega
theorem cutR_fit (r : Req) (h : r.wf) (hs : szR (plainR r) ≤ 50000) : (cutR r).fit := by
 have hs' : (plainR r).key.length + (plainR r).val.length + (plainR r).old.length ≤ 50000 := hs
 refine req_fit (Nat.le_refl 5000000) ⟨h.deed, h.ht, h.hg, h.hr, h.lim, h.ten, h.qk, h.qb, h.rts, ?_, ?_, ?_⟩ ?_
 ·show (plainR r).key.length ≤ _; omega
 ·show (plainR r).val.length ≤ _; omega
 ·show (plainR r).old.length ≤ _; omega
 ·show (plainR r).key.length + (plainR r).val.length + (plainR r).old.length ≤ _; omega
theorem small_fit (r : Req) (h : r.wf) (hs : szR (plainR r) ≤ 50000) : (plainR r).fit := by
 have := plain_fit (cutR r) (cutR_fit r h hs)
 rwa [cutR_plain] at this
theorem small_checks (r : Req) (h : r.wf) (hs : szR (plainR r) ≤ 50000) : ∃ t, showP (plainR r) = some t ∧ readR (spl t) = some (plainR r) ∧ ClnT t ∧ t.length ≤ 3 * szR (plainR r) + 90 := by
 have := ent_checks (cutR r) (cutR_fit r h hs)
 rwa [cutR_plain] at this
theorem szs_mem {e : Int × Req} : ∀ {l : List (Int × Req)}, e ∈ l → szR e.2 ≤ szs l
 | [], h => by cases h
 | a :: t, h => by
  have h7 : szs (a :: t) = szR a.2 + szs t := by simp [szs]
  rcases List.mem_cons.1 h with rfl | h
  ·omega
  ·have := szs_mem h; omega
theorem take_plain {es : List (Int × Req)} (h : ∀ e ∈ es, e.2.wf) (k : Nat) (hs : szs ((es.take k).map entP) ≤ 50000) : ∀ e ∈ (es.take k).map entP, Plain1 e := by
 intro e he
 have hm := szs_mem he
 obtain ⟨a, ha, rfl⟩ := List.mem_map.1 he
 have := entP_plain (a.1, cutR a.2) (cutR_fit a.2 (h a (List.mem_of_mem_take ha)) (Nat.le_trans hm hs))
 unfold entP at this ⊢
 dsimp only at this
 rwa [cutR_plain] at this
/-- the state of the law's loops: k entries and j picks have been taken -/
structure BkS (W : World) (ev pv : Value) (es : List (Int × Req)) (ps : List Int) (k j : Nat) (W' : World) : Prop where
 later : Later W W'
 big : W.heap.size + 2 ≤ W'.heap.size
 arg : W'.heap[W.heap.size]? = some (.cells #[ev, pv] 45 (0, 0))
 st : ∃ a c b d, W'.heap[W.heap.size + 1]? = some (.cells #[.slice a k c, .slice b j d] 45 (0, 0)) ∧ W'.ownsRow (W.heap.size + 2) 59 13 (.slice a k c) k (entC ((es.take k).map entP)) ∧ W'.ownsRow (W.heap.size + 2) 3 1 (.slice b j d) j (ints (ps.take j))
theorem BkS.after {W W1 W2 : World} {ev pv : Value} {es : List (Int × Req)} {ps : List Int} {k j : Nat} (h : BkS W ev pv es ps k j W1) (hl : Later W1 W2) : BkS W ev pv es ps k j W2 := by
 have hb := h.big
 obtain ⟨a, c, b, d, h1, h2, h3⟩ := h.st
 exact ⟨h.later.trans hl, Nat.le_trans hb hl.size, (hl.block _ (by omega)).trans h.arg, a, c, b, d, (hl.block _ (by omega)).trans h1, ownsRow_later h2 hl, ownsRow_later h3 hl⟩
theorem BkS.grow {W W1 W6 : World} {ev pv : Value} {es : List (Int × Req)} {ps : List Int} {k j : Nat} (h : BkS W ev pv es ps k j W1) {g : Value} {e size n : Nat} {xs : List Value} (hg0 : W1.ownsRow (W.heap.size + 2) e size g n xs) (hg : W1.grownBy W6 g.ownBlock) :
  Later W W6 ∧ W.heap.size + 2 ≤ W6.heap.size ∧ ∀ k, k < W.heap.size + 2 → W6.heap[k]? = W1.heap[k]? := by
 have hb := h.big
 have hlt : ∀ k, g.ownBlock = some k → W.heap.size + 2 ≤ k := fun k hk => (hg0.lt k hk).1
 have keep : ∀ k, k < W.heap.size + 2 → W6.heap[k]? = W1.heap[k]? := fun k hk => hg.block k (by omega) (fun e => by have := hlt k e.symm; omega)
 exact ⟨⟨hg.os.trans h.later.os, hg.tape.trans h.later.tape, hg.output.trans h.later.output, Nat.le_trans h.later.size hg.size, fun k hk => (keep k (by omega)).trans (h.later.block k hk)⟩, Nat.le_trans hb hg.size, keep⟩
theorem BkS.entry {W W1 W6 : World} {ev pv : Value} {es : List (Int × Req)} {ps : List Int} {k j : Nat} (h : BkS W ev pv es ps k j W1) {a b : Option Addr} {c d : Nat} (h1 : W1.heap[W.heap.size + 1]? = some (.cells #[.slice a k c, .slice b j d] 45 (0, 0)))
  (h2 : W1.ownsRow (W.heap.size + 2) 59 13 (.slice a k c) k (entC ((es.take k).map entP))) (h3 : W1.ownsRow (W.heap.size + 2) 3 1 (.slice b j d) j (ints (ps.take j))) {e : Int × Req} (he : es[k]? = some e)
  {a3 : Option Addr} {c3 : Nat} (h6 : W6.ownsRow (W.heap.size + 2) 59 13 (.slice a3 (k + 1) c3) (k + 1) (entC ((es.take k).map entP) ++ (.int .i64 (entP e).1 :: (reqA (entP e).2).toList))) (hg : W1.grownBy W6 (Value.slice a k c).ownBlock) :
  BkS W ev pv es ps (k + 1) j (W6.setCell ⟨W.heap.size + 1, 0, none⟩ (.slice a3 (k + 1) c3)) := by
 obtain ⟨k1, k2, k3⟩ := h.grow h2 hg
 obtain ⟨l1, _, l3⟩ := setCell_low (D := W.heap.size + 2) (p := W.heap.size + 1) (o := 0) (u := .slice a3 (k + 1) c3) k1 (by omega) (by omega)
 have ht : (es.take (k + 1)).map entP = (es.take k).map entP ++ [entP e] := by rw [List.take_add_one, he]; simp
 refine ⟨l1, by simpa using k2, (l3 _ (by omega)).trans ((k3 _ (by omega)).trans h.arg), a3, c3, b, d, two_set0 ((k3 _ (by omega)).trans h1), ?_, own_set (h3.kept hg (own_apart h3 h2 (by decide))) (by omega)⟩
 rw [ht, entC_snoc]
 exact own_set h6 (by omega)
theorem BkS.pick {W W1 W6 : World} {ev pv : Value} {es : List (Int × Req)} {ps : List Int} {k j : Nat} (h : BkS W ev pv es ps k j W1) {a b : Option Addr} {c d : Nat} (h1 : W1.heap[W.heap.size + 1]? = some (.cells #[.slice a k c, .slice b j d] 45 (0, 0)))
  (h2 : W1.ownsRow (W.heap.size + 2) 59 13 (.slice a k c) k (entC ((es.take k).map entP))) (h3 : W1.ownsRow (W.heap.size + 2) 3 1 (.slice b j d) j (ints (ps.take j))) {p : Int} (hp : ps[j]? = some p)
  {a3 : Option Addr} {c3 : Nat} (h6 : W6.ownsRow (W.heap.size + 2) 3 1 (.slice a3 (j + 1) c3) (j + 1) (ints (ps.take j) ++ [.int .i64 p])) (hg : W1.grownBy W6 (Value.slice b j d).ownBlock) :
  BkS W ev pv es ps k (j + 1) (W6.setCell ⟨W.heap.size + 1, 1, none⟩ (.slice a3 (j + 1) c3)) := by
 obtain ⟨k1, k2, k3⟩ := h.grow h3 hg
 obtain ⟨l1, _, l3⟩ := setCell_low (D := W.heap.size + 2) (p := W.heap.size + 1) (o := 1) (u := .slice a3 (j + 1) c3) k1 (by omega) (by omega)
 have ht : ps.take (j + 1) = ps.take j ++ [p] := by rw [List.take_add_one, hp]; simp
 refine ⟨l1, by simpa using k2, (l3 _ (by omega)).trans ((k3 _ (by omega)).trans h.arg), a, c, a3, c3, two_set1 ((k3 _ (by omega)).trans h1), own_set (h2.kept hg (own_apart h2 h3 (by decide))) (by omega), ?_⟩
 rw [ht, ints_append]
 exact own_set h6 (by omega)
theorem szs_snoc (es : List (Int × Req)) (k : Nat) (e : Int × Req) (he : es[k]? = some e) : szs ((es.take (k + 1)).map entP) = szs ((es.take k).map entP) + szR (plainR e.2) := by
 have ht : (es.take (k + 1)).map entP = (es.take k).map entP ++ [entP e] := by rw [List.take_add_one, he]; simp
 rw [ht]
 simp [szs, entP]
set_option maxRecDepth 100000 in
set_option maxHeartbeats 16000000 in
theorem ScriptBack_is (v : Value) (s : Scr) (N : Nat) (W : World) (hN : N ≤ 1152921504606846976) (h : ScrAt N W v s) (hw : Laid W) : Calls Tryz.prog 8 #[v] W fun e w' => e = .returned (.bool true) ∧ Later W w' := by
 obtain ⟨ev, pv, rfl, hev, hpv⟩ := h.ex
 have hfit : ∀ e ∈ s.1, szR (plainR e.2) ≤ 1152921504606846976 := fun e he => Nat.le_trans (szR_plain e.2) (Nat.le_trans (h.ents e he).2 hN)
 have hwf : ∀ e ∈ s.1, (Lit.int .i64 e.1).wf = true ∧ e.2.wf := fun e he => (h.ents e he).1
 have hin : ∀ p ∈ s.2, inI p := fun p hp => wf64 (h.nums p hp)
 obtain ⟨es, ps⟩ := s
 dsimp only at hfit hwf hin hev hpv
 have HEV := Lib.hid (fun w' (hl : Later W w') => hev.later hl)
 have HPV := Lib.hid (fun w' (hl : Later W w') => hpv.later hl)
 obtain ⟨ae, ce, rfl, -⟩ := hev
 obtain ⟨ap, cp, rfl, -⟩ := hpv
 have hle : es.length ≤ 1152921504606846976 := Nat.le_trans h.le1 hN
 have hlp : ps.length ≤ 1152921504606846976 := Nat.le_trans h.le2 hN
 have HFIT := Lib.hid (And.intro hfit (And.intro hwf hin))
 have HW := Lib.hid hw
 have HPLN := Lib.hid (take_plain fun e he => (hwf e he).2)
 obtain ⟨n, hn⟩ : ∃ n, es.length = n := ⟨_, rfl⟩
 obtain ⟨m, hm⟩ : ∃ m, ps.length = m := ⟨_, rfl⟩
 rw [hn] at hle HEV
 rw [hm] at hlp HPV
 have HNM := Lib.hid (And.intro hn (And.intro hm (And.intro hle hlp)))
 have hi59 : (Tryz.prog.info? 59).map (fun i => (i.zero, i.size, i.bytes)) = some (some (.agg #[.int .i64 0, .int .i64 0, .int .i64 0, .int .u32 0, .int .u8 0, .string ⟨#[]⟩, .string ⟨#[]⟩, .string ⟨#[]⟩, .int .i64 0, .int .i64 0, .int .u64 0, .int .u64 0, .int .u8 0]), 13, 120) := by kernel_rfl
 have hi3 : (Tryz.prog.info? 3).map (fun i => (i.zero, i.size, i.bytes)) = some (some (.int .i64 0), 1, 8) := by kernel_rfl
 have HI59 := Lib.hid (info_parts hi59)
 have HI3 := Lib.hid (info_parts hi3)
 rw [hn, hm]
 clear h hfit hwf hin hw hn hm hle hlp hi59 hi3 hN
 go_enter Tryz.func8, Tryz.ntmps8
 go_upto_block 0 with fail
 go_cut [] from 4 to 113 (fun W1 => ∃ k, k ≤ 100 ∧ k ≤ n ∧ szs ((es.take k).map entP) ≤ 50000 ∧ BkS W (.slice ae n ce) (.slice ap m cp) es ps k 0 W1)
 case first =>
  have hbs0 : BkS W (.slice ae n ce) (.slice ap m cp) es ps 0 0 ((W.alloc (.cells #[.slice ae n ce, .slice ap m cp] 45)).alloc (.cells #[.slice none 0 0, .slice none 0 0] 45)) := by
   have h1 := (MapKept.heap_alloc W (.cells #[.slice ae n ce, .slice ap m cp] 45)).1
   have h2 := (MapKept.heap_alloc (W.alloc (.cells #[.slice ae n ce, .slice ap m cp] 45)) (.cells #[.slice none 0 0, .slice none 0 0] 45)).1
   have hs : (W.alloc (.cells #[.slice ae n ce, .slice ap m cp] 45)).heap.size = W.heap.size + 1 := by show (W.heap.push _).size = _; simp
   rw [hs] at h2
   exact ⟨((Later.refl W).alloc _).alloc _, by show W.heap.size + 2 ≤ ((W.heap.push _).push _).size; simp, (((Later.refl _).alloc _).block _ (Array.getElem?_eq_some_iff.1 h1).1).trans h1, none, 0, none, 0, h2, World.ownsRow_nil _ _ _ _, World.ownsRow_nil _ _ _ _⟩
  have HB0 := Lib.hid hbs0
  clear hbs0
  go_wp2_with fail
  go_loopw [4, 5] (fun a i wr => ∃ (k : Nat), k ≤ n ∧ k ≤ 100 ∧ a = .int .i64 ((szs ((es.take k).map entP) : Nat) : Int) ∧ i = .int .i64 k ∧ szs ((es.take k).map entP) ≤ 50000 ∧ BkS W (.slice ae n ce) (.slice ap m cp) es ps k 0 wr) (fun _ i _ => n - (RowKit.intOf i).toNat)
  case atStart => exact ⟨0, Nat.zero_le _, by omega, by simp [szs], rfl, by simp [szs], HB0.out⟩
  case round =>
   obtain ⟨k, hkn, hk100, rfl, rfl, hsz, hbs⟩ := hrel
   rename World => wr
   have HBS := Lib.hid hbs
   have HSZ := Lib.hid hsz
   have c0 : wr.cell? ⟨W.heap.size, 0, none⟩ = some (.slice ae n ce) := by rw [Lib.cell_of_heap hbs.arg]; rfl
   clear hbs hsz HB0
   by_cases hlt : k < n
   ·by_cases hl2 : k < 100
    ·have hX := HEV.out wr HBS.out.later
     obtain ⟨ae', ce', hvv, h0 | ⟨X, off, rfl, hrg⟩⟩ := hX
     ·have := HNM.out.1; omega
     ·injection hvv with q1 q2 q3
      subst q1
      have hke : k < es.length := by have := HNM.out.1; omega
      obtain ⟨e, he⟩ : ∃ e, es[k]? = some e := ⟨_, List.getElem?_eq_getElem hke⟩
      have hr := hrg k e he
      have hmem := List.mem_of_getElem? he
      have hw2 := (HFIT.out.2.1 e hmem).2
      obtain ⟨t, hck⟩ : ∃ t, szR (plainR e.2) ≤ 50000 → (showP (plainR e.2) = some t ∧ readR (spl t) = some (plainR e.2) ∧ ClnT t ∧ t.length ≤ 3 * szR (plainR e.2) + 90) ∧ (plainR e.2).fit := by
       by_cases hs : szR (plainR e.2) ≤ 50000
       ·obtain ⟨t, h⟩ := small_checks e.2 hw2 hs
        exact ⟨t, fun _ => ⟨h, small_fit e.2 hw2 hs⟩⟩
       ·exact ⟨[], fun h => absurd h hs⟩
      have hsum := szs_snoc es k e he
      have hplen := HFIT.out.1 e hmem
      obtain ⟨n1, q⟩ := e
      have hw1 := (HFIT.out.2.1 (n1, q) hmem)
      dsimp only at hck hsum hplen hw1
      have hpl := fun W0 => Plain_is q hw1.2 W0
      obtain ⟨Lq, hLq⟩ : ∃ L, (reqA q).toList = L := ⟨_, rfl⟩
      have hr1 : wr.rangeAt X (off + k * 13 + 1) Lq := fun j u hj => by
       rw [Nat.add_assoc, Nat.add_comm 1 j]
       exact hr (j + 1) u (by rw [← hLq] at hj; show (Value.int .i64 n1 :: (reqA q).toList)[j + 1]? = _; rw [List.getElem?_cons_succ]; exact hj)
      have hr0 : wr.cell? ⟨X, off + k * 13, none⟩ = some (.int .i64 n1) := hr 0 _ rfl
      have hLi : (Tryz.prog.info? 39).map (·.size) = some Lq.length := by rw [← hLq, Array.length_toList]; exact reqA_info
      have hLa : reqA q = Lq.toArray := by rw [← hLq, Array.toArray_toList]
      unfold reqV at hpl
      rw [hLa] at hpl
      obtain ⟨P, hP⟩ : ∃ P, plainR q = P := ⟨_, rfl⟩
      rw [hP] at hpl hck hsum hplen
      have hkl : szR P = P.key.length + P.val.length + P.old.length := rfl
      have hHSR : szR P ≤ 50000 → ∀ W0, Laid W0 → Calls Tryz.prog 22 #[.agg (reqA P)] W0 fun e w' => e = .returned (.tuple #[.string ⟨t.toArray⟩, .int .i64 0]) ∧ Later W0 w' := fun hs W0 h0 => by
       obtain ⟨⟨hsh, -, -, -⟩, hpf⟩ := hck hs
       have := ShowRequest_is P hpf W0 h0
       rw [hsh] at this
       exact this
      have hHRR : szR P ≤ 50000 → ∀ W0, Laid W0 → Calls Tryz.prog 15 #[.string ⟨t.toArray⟩] W0 fun e w' => e = .returned (.tuple #[.agg (reqA P), .int .i64 0]) ∧ Later W0 w' := fun hs W0 h0 => by
       obtain ⟨⟨-, hrd, -, htl⟩, -⟩ := hck hs
       have := ReadRequest_is t (by omega) W0 h0
       rw [hrd] at this
       exact this
      have hHWO : szR P ≤ 50000 → ∀ W0, Calls Tryz.prog 11 #[.string ⟨P.key.toArray⟩] W0 fun e w' => e = .returned (.string ⟨(word P.key).toArray⟩) ∧ Later W0 w' := fun hs W0 => Word_is ⟨P.key.toArray⟩ (by rw [size_mk]; omega) W0
      have hHUN : szR P ≤ 50000 → ∀ W0, Calls Tryz.prog 12 #[.string ⟨(word P.key).toArray⟩] W0 fun e w' => e = .returned (.tuple #[.string ⟨P.key.toArray⟩, .int .i64 0]) ∧ Later W0 w' := fun hs W0 => by
       have := Unword_is ⟨(word P.key).toArray⟩ (by rw [size_mk]; have := word_len P.key; omega) W0
       rw [show (⟨(word P.key).toArray⟩ : ByteArray).data.toList = word P.key from rfl, unword_word] at this
       exact this
      have hHCL : szR P ≤ 50000 → ∀ W0, Calls Tryz.prog 28 #[.string ⟨t.toArray⟩] W0 fun e w' => e = .returned (.bool true) ∧ w' = W0 := fun hs W0 => Clean_is ⟨t.toArray⟩ (hck hs).1.2.2.1 (by rw [size_mk]; have := (hck hs).1.2.2.2; omega) W0
      have hHNE : szR P ≤ 50000 → ∀ W0 : World, (binOp .neq 39 (.agg (reqA P)) (.agg (reqA P))).run Tryz.prog W0 = .ok (.bool false) W0 := fun hs W0 => by
       obtain ⟨b, hb, hbq⟩ := eq_req P P (hck hs).2.wf (hck hs).2.wf W0
       rw [hbq.2 rfl] at hb
       exact hb
      obtain ⟨Wd, hWd⟩ : ∃ Wd : ByteArray, ⟨(word P.key).toArray⟩ = Wd := ⟨_, rfl⟩
      obtain ⟨T, hT⟩ : ∃ T : ByteArray, ⟨t.toArray⟩ = T := ⟨_, rfl⟩
      obtain ⟨K, hK⟩ : ∃ K : ByteArray, ⟨P.key.toArray⟩ = K := ⟨_, rfl⟩
      obtain ⟨Vb, hVb⟩ : ∃ V : ByteArray, ⟨P.val.toArray⟩ = V := ⟨_, rfl⟩
      obtain ⟨O, hO⟩ : ∃ O : ByteArray, ⟨P.old.toArray⟩ = O := ⟨_, rfl⟩
      have hA : reqA P = #[.int .i64 P.deed, .int .i64 P.ht, .int .u32 P.hg, .int .u8 P.hr, .string K, .string Vb, .string O, .int .i64 P.lim, .int .i64 P.ten, .int .u64 P.qk, .int .u64 P.qb, .int .u8 P.rts] := by rw [← hK, ← hVb, ← hO]; rfl
      have s1 : K.size = P.key.length := by rw [← hK, size_mk]
      have s2 : Vb.size = P.val.length := by rw [← hVb, size_mk]
      have s3 : O.size = P.old.length := by rw [← hO, size_mk]
      have h1o : (reqA P).all (·.oneCell') = true := reqA_one _
      obtain ⟨D, hD⟩ : ∃ D, reqA P = D := ⟨_, rfl⟩
      have h1s : (Tryz.prog.info? 39).map (·.size) = some D.size := by rw [← hD]; exact reqA_info
      have h1z : (reqA req0).size = D.size := by rw [← hD]; rfl
      rw [hD] at hpl hHRR h1o
      rw [hA] at hHSR hHNE
      rw [hT] at hHSR hHRR hHCL
      rw [hWd] at hHWO hHUN
      rw [hK] at hHWO hHUN
      have hC : ∀ (U : World) (b : Nat), U.heap[b]? = some (.cells D 39 (0, 0)) → U.cell? ⟨b, 0, none⟩ = some (.int .i64 P.deed) ∧ U.cell? ⟨b, 1, none⟩ = some (.int .i64 P.ht) ∧ U.cell? ⟨b, 2, none⟩ = some (.int .u32 P.hg) ∧ U.cell? ⟨b, 3, none⟩ = some (.int .u8 P.hr) ∧ U.cell? ⟨b, 4, none⟩ = some (.string K) ∧ U.cell? ⟨b, 5, none⟩ = some (.string Vb) ∧ U.cell? ⟨b, 6, none⟩ = some (.string O) ∧ U.cell? ⟨b, 7, none⟩ = some (.int .i64 P.lim) ∧ U.cell? ⟨b, 8, none⟩ = some (.int .i64 P.ten) ∧ U.cell? ⟨b, 9, none⟩ = some (.int .u64 P.qk) ∧ U.cell? ⟨b, 10, none⟩ = some (.int .u64 P.qb) ∧ U.cell? ⟨b, 11, none⟩ = some (.int .u8 P.rts) := fun U b h => by
       refine ⟨?_, ?_, ?_, ?_, ?_, ?_, ?_, ?_, ?_, ?_, ?_, ?_⟩ <;> (rw [Lib.cell_of_heap h, ← hD, hA]; rfl)
      have HC := Lib.hid hC
      have HPL := Lib.hid hpl
      have HSR := Lib.hid hHSR
      have HRR := Lib.hid hHRR
      have HWO := Lib.hid hHWO
      have HUN := Lib.hid hHUN
      have HCL := Lib.hid hHCL
      have HNE := Lib.hid hHNE
      have HI := Lib.hid (And.intro h1s (And.intro h1z h1o))
      have HR := Lib.hid (And.intro hr1 (And.intro hLi hr0))
      have HDD := Lib.hid (And.intro hD (And.intro hA (And.intro hP hw1.1)))
      have HE := Lib.hid he
      have hsz0 := HSZ.out
      obtain ⟨z, hz⟩ : ∃ z, szs ((es.take k).map entP) = z := ⟨_, rfl⟩
      rw [hz] at hsum hsz0 ⊢
      obtain ⟨m1, hm1⟩ : ∃ m1, K.size + Vb.size = m1 := ⟨_, rfl⟩
      obtain ⟨m2, hm2⟩ : ∃ m2, m1 + O.size = m2 := ⟨_, rfl⟩
      obtain ⟨m3, hm3⟩ : ∃ m3, z + m2 = m3 := ⟨_, rfl⟩
      have a1 : IntKind.i64.wrap ((K.size : Int) + (Vb.size : Int)) = (m1 : Int) := by
       rw [show (K.size : Int) + (Vb.size : Int) = (m1 : Int) by omega]
       exact IntWalk.i64_in _ (by omega)
      have a2 : IntKind.i64.wrap ((m1 : Int) + (O.size : Int)) = (m2 : Int) := by
       rw [show (m1 : Int) + (O.size : Int) = (m2 : Int) by omega]
       exact IntWalk.i64_in _ (by omega)
      have a3 : IntKind.i64.wrap ((z : Int) + (m2 : Int)) = (m3 : Int) := by
       rw [show (z : Int) + (m2 : Int) = (m3 : Int) by omega]
       exact IntWalk.i64_in _ (by omega)
      have HM := Lib.hid (show szs ((es.take (k + 1)).map entP) = m3 by rw [hsum, hkl]; omega)
      have HSP := Lib.hid (show szR P ≤ m3 by omega)
      have d1 : decide ((k : Int) < (n : Int)) = true := decide_eq_true (by omega)
      have d2 : decide ((k : Int) < (100 : Int)) = true := decide_eq_true (by omega)
      clear hr hr0 hr1 hrg hmem hck hsum hplen hw1 hw2 hpl hLq hLi hLa hP hkl hHSR hHRR hHWO hHUN hHCL hHNE hWd hT hK hVb hO hA s1 s2 s3 h1o hD h1s h1z hC hz hm1 hm2 hm3 he hsz0 q2 q3 hke
      go_wp2_with (refine wpList_load_mid rfl 39 (.tmp 36) rfl X (off + k * 13 + 1) rfl Lq _ HR.out.1 Tryz.underlying39 rfl HR.out.2.1 ?_)
      refine (HPL.out wr).mono ?_
      rintro y0 w1 ⟨rfl, hl1⟩
      have HL1 := Lib.hid hl1
      clear hl1 d1 d2 c0
      go_upto_region 7 with (refine wpList_store_rowTo rfl 39 (.tmp 6) (.tmp 38) rfl rfl w1.heap.size D rfl rfl 39 (reqA req0) (req_block w1 (reqA req0)) HI.out.1 HI.out.2.1 HI.out.2.2 ?_)
      have hz1 : (w1.alloc (.cells #[.int .i64 0, .int .i64 0, .int .u32 0, .int .u8 0, .string ⟨#[]⟩, .string ⟨#[]⟩, .string ⟨#[]⟩, .int .i64 0, .int .i64 0, .int .u64 0, .int .u64 0, .int .u8 0] 39)).setRow w1.heap.size D = w1.alloc (.cells D 39) := World.setRow_alloc_new _ _ _ _
      rw [hz1]
      obtain ⟨B6, hB6⟩ : ∃ B, w1.heap.size = B := ⟨_, rfl⟩
      obtain ⟨V1, hV1⟩ : ∃ V, w1.alloc (.cells D 39) = V := ⟨_, rfl⟩
      have hlV : Later wr V1 := by rw [← hV1]; exact HL1.out.alloc _
      have hkV : V1.heap[B6]? = some (.cells D 39 (0, 0)) := by rw [← hV1, ← hB6]; exact req_block w1 D
      have HV1 := Lib.hid (And.intro hlV hkV)
      have HLB := Lib.hid (HBS.out.later)
      obtain ⟨e0, e1, e2, e3, e4, e5, e6, e7, e8, e9, e10, e11⟩ := HC.out V1 B6 hkV
      rw [hB6, hV1]
      clear hz1 hB6 hV1 hlV hkV HL1
      by_cases hbig : m3 ≤ 50000
      ·have t0 : decide ((50000 : Int) < (m3 : Int)) = false := decide_eq_false (by omega)
       go_wp2_with fail
       refine (HSR.out (Nat.le_trans HSP.out hbig) V1 (HW.out.later (HLB.out.trans HV1.out.1))).mono ?_
       rintro y2 w2 ⟨rfl, hl2⟩
       have HL2 := Lib.hid hl2
       clear hl2 e0 e1 e2 e3 e4 e5 e6 e7 e8 e9 e10 e11 a1 a2 a3 t0
       go_wp2_with fail
       refine (HRR.out (Nat.le_trans HSP.out hbig) w2 (HW.out.later (HLB.out.trans (HV1.out.1.trans HL2.out)))).mono ?_
       rintro y3 w3 ⟨rfl, hl3⟩
       have HL3 := Lib.hid (HL2.out.trans hl3)
       clear hl3
       go_upto_region 11 with (refine wpList_store_rowTo rfl 39 (.tmp 9) (.tmp 62) rfl rfl w3.heap.size D rfl rfl 39 (reqA req0) (req_block w3 (reqA req0)) HI.out.1 HI.out.2.1 HI.out.2.2 ?_)
       have hz3 : (w3.alloc (.cells #[.int .i64 0, .int .i64 0, .int .u32 0, .int .u8 0, .string ⟨#[]⟩, .string ⟨#[]⟩, .string ⟨#[]⟩, .int .i64 0, .int .i64 0, .int .u64 0, .int .u64 0, .int .u8 0] 39)).setRow w3.heap.size D = w3.alloc (.cells D 39) := World.setRow_alloc_new _ _ _ _
       rw [hz3]
       obtain ⟨B9, hB9⟩ : ∃ B, w3.heap.size = B := ⟨_, rfl⟩
       obtain ⟨V3, hV3⟩ : ∃ V, w3.alloc (.cells D 39) = V := ⟨_, rfl⟩
       have hlV : Later V1 V3 := by rw [← hV3]; exact HL3.out.alloc _
       have hkV : V3.heap[B9]? = some (.cells D 39 (0, 0)) := by rw [← hV3, ← hB9]; exact req_block w3 D
       have hk6 := (hlV.block _ (Array.getElem?_eq_some_iff.1 HV1.out.2).1).trans HV1.out.2
       have HV3 := Lib.hid (And.intro hlV (And.intro hkV hk6))
       obtain ⟨e0, e1, e2, e3, e4, e5, e6, e7, e8, e9, e10, e11⟩ := HC.out V3 B6 hk6
       rw [hB9, hV3]
       clear hz3 hB9 hV3 hlV hkV hk6 HL3 HL2
       go_wp2_with fail
       refine (HWO.out (Nat.le_trans HSP.out hbig) V3).mono ?_
       rintro y4 w4 ⟨rfl, hl4⟩
       have HL4 := Lib.hid hl4
       clear hl4 e0 e1 e2 e3 e4 e5 e6 e7 e8 e9 e10 e11
       go_wp2_with fail
       refine (HUN.out (Nat.le_trans HSP.out hbig) w4).mono ?_
       rintro y5 w5 ⟨rfl, hl5⟩
       have hl5' := HL4.out.trans hl5
       have hk9 := (hl5'.block _ (Array.getElem?_eq_some_iff.1 HV3.out.2.1).1).trans HV3.out.2.1
       have hk6 := (hl5'.block _ (Array.getElem?_eq_some_iff.1 HV3.out.2.2).1).trans HV3.out.2.2
       have HL5 := Lib.hid (HV1.out.1.trans (HV3.out.1.trans hl5'))
       obtain ⟨e0, e1, e2, e3, e4, e5, e6, e7, e8, e9, e10, e11⟩ := HC.out w5 B6 hk6
       obtain ⟨g0, g1, g2, g3, g4, g5, g6, g7, g8, g9, g10, g11⟩ := HC.out w5 B9 hk9
       have hbs5 := HBS.out.after HL5.out
       have HBS5 := Lib.hid hbs5
       obtain ⟨a, c, b, d, q1, q2, q3⟩ := hbs5.st
       have ccp : w5.cell? ⟨W.heap.size + 1, 0, none⟩ = some (.slice a k c) := by rw [Lib.cell_of_heap q1]; rfl
       have HST := Lib.hid (And.intro q1 (And.intro q2 q3))
       have HK6 := Lib.hid hk6
       have hne := HNE.out (Nat.le_trans HSP.out hbig) w5
       have HCA := Lib.hid (show w5.cell? ⟨W.heap.size, 0, none⟩ = some (.slice (some ⟨X, off, none⟩) n ce) by rw [Lib.cell_of_heap hbs5.arg]; rfl)
       have HCE := Lib.hid (show w5.cell? ⟨X, off + k * 13, none⟩ = some (.int .i64 n1) from cell_at HL5.out HR.out.2.2 (cell_lt HR.out.2.2))
       clear hl5 hl5' hk9 hk6 hbs5 q1 q2 q3 HL4
       go_wp2_with fail
       refine (HCL.out (Nat.le_trans HSP.out hbig) w5).mono ?_
       rintro y6 w6 ⟨rfl, rfl⟩
       go_wp2_with fail
       clear e0 e1 e2 e3 e4 e5 e6 e7 e8 e9 e10 e11 g0 g1 g2 g3 g4 g5 g6 g7 g8 g9 g10 g11 hne ccp
       have HDZ := Lib.hid (show D.size = 12 ∧ D.toList = [.int .i64 P.deed, .int .i64 P.ht, .int .u32 P.hg, .int .u8 P.hr, .string K, .string Vb, .string O, .int .i64 P.lim, .int .i64 P.ten, .int .u64 P.qk, .int .u64 P.qb, .int .u8 P.rts] ∧ ∀ u ∈ (Value.int .i64 (plM n1) :: D.toList), u.oneCell' = true by
        have h := HDD.out.2.1
        rw [HDD.out.1] at h
        rw [h]
        refine ⟨rfl, rfl, ?_⟩
        intro u hu
        revert u
        simp [Value.oneCell'])
       obtain ⟨tb1, tb2⟩ := tb_1000000000 n1
       have HN1 := Lib.hid (show IntKind.i64.wrap (n1.tmod 1000000000 + 1000000000) = n1.tmod 1000000000 + 1000000000 from IntWalk.i64_in _ (by omega))
       have HN2 := Lib.hid (show (n1.tmod 1000000000 + 1000000000).tmod 1000000000 = plM n1 from tm_1000000000 n1)
       clear tb1 tb2
       refine wp_region_iv mixedS (fun D' a' W' => ∃ x0 x1 x2 x3 x4 x5 x6 x7 x8 x9 x10 x11 x12 x13 x14, a' = ⟨#[Value.agg #[Value.slice (some { block := X, off := off }) n ce, Value.slice ap m cp], Value.pointer (some { block := W.heap.size, off := 0 }), u2, Value.pointer (some { block := W.heap.size + 1, off := 0 }), Value.int IntKind.i64 ↑m3, Value.int IntKind.i64 ↑k, Value.pointer (some { block := B6, off := 0 }), Value.string T, Value.int IntKind.i64 0, Value.pointer (some { block := B9, off := 0 }), Value.int IntKind.i64 0, Value.string K, Value.int IntKind.i64 0, Value.slice a k c, undef, undef, undef, undef, undef, undef, undef, Value.int IntKind.i64 ↑k, Value.pointer (some { block := W.heap.size, off := 0 }), Value.slice (some { block := X, off := off }) n ce, Value.int IntKind.i64 ↑n, Value.bool true, Value.bool true, Value.int IntKind.i64 ↑k, Value.bool true, Value.bool true, u30, u31, Value.pointer (some { block := W.heap.size, off := 0 }), Value.slice (some { block := X, off := off }) n ce, Value.int IntKind.i64 ↑k, Value.pointer (some { block := X, off := off + k * 13 }), Value.pointer (some { block := X, off := off + k * 13 + 1 }), Value.agg Lq.toArray, Value.agg D, Value.int IntKind.i64 ↑z, Value.pointer (some { block := B6, off := 4 }), Value.string K, Value.int IntKind.i64 ↑K.size, Value.pointer (some { block := B6, off := 5 }), Value.string Vb, Value.int IntKind.i64 ↑Vb.size, Value.int IntKind.i64 ↑m1, Value.pointer (some { block := B6, off := 6 }), Value.string O, Value.int IntKind.i64 ↑O.size, Value.int IntKind.i64 ↑m2, Value.int IntKind.i64 ↑m3, Value.int IntKind.i64 ↑m3, Value.bool false, Value.tuple #[Value.string T, Value.int IntKind.i64 0], Value.agg #[Value.int IntKind.i64 P.deed, Value.int IntKind.i64 P.ht, Value.int IntKind.u32 P.hg, Value.int IntKind.u8 P.hr, Value.string K, Value.string Vb, Value.string O, Value.int IntKind.i64 P.lim, Value.int IntKind.i64 P.ten, Value.int IntKind.u64 P.qk, Value.int IntKind.u64 P.qb, Value.int IntKind.u8 P.rts], Value.tuple #[Value.string T, Value.int IntKind.i64 0], Value.string T, Value.int IntKind.i64 0, Value.tuple #[Value.agg D, Value.int IntKind.i64 0], Value.string T, Value.tuple #[Value.agg D, Value.int IntKind.i64 0], Value.agg D, Value.int IntKind.i64 0, Value.tuple #[Value.string K, Value.int IntKind.i64 0], Value.pointer (some { block := B6, off := 4 }), Value.string K, Value.string Wd, Value.tuple #[Value.string K, Value.int IntKind.i64 0], Value.string K, Value.int IntKind.i64 0, Value.int IntKind.i64 0, Value.bool false, Value.bool false, Value.int IntKind.i64 0, Value.bool false, Value.bool false, Value.bool false, Value.agg #[Value.int IntKind.i64 P.deed, Value.int IntKind.i64 P.ht, Value.int IntKind.u32 P.hg, Value.int IntKind.u8 P.hr, Value.string K, Value.string Vb, Value.string O, Value.int IntKind.i64 P.lim, Value.int IntKind.i64 P.ten, Value.int IntKind.u64 P.qk, Value.int IntKind.u64 P.qb, Value.int IntKind.u8 P.rts], Value.agg #[Value.int IntKind.i64 P.deed, Value.int IntKind.i64 P.ht, Value.int IntKind.u32 P.hg, Value.int IntKind.u8 P.hr, Value.string K, Value.string Vb, Value.string O, Value.int IntKind.i64 P.lim, Value.int IntKind.i64 P.ten, Value.int IntKind.u64 P.qk, Value.int IntKind.u64 P.qb, Value.int IntKind.u8 P.rts], Value.bool false, Value.bool false, Value.bool false, Value.string K, Value.pointer (some { block := B6, off := 4 }), Value.string K, Value.bool false, Value.bool false, Value.bool false, Value.int IntKind.i64 0, Value.bool false, Value.bool false, Value.bool false, Value.string T, Value.bool true, Value.bool false, Value.bool false, Value.pointer (some { block := W.heap.size + 1, off := 0 }), Value.slice a k c, x0, x1, x2, x3, x4, x5, x6, x7, x8, x9, x10, x11, x12, x13, x14, undef, undef, undef, undef, undef, undef, undef, undef, undef, undef, undef, undef, undef, undef, undef, undef, undef, undef, undef, undef, undef, undef, undef, undef, undef, undef, undef, undef, undef, undef, undef, undef, undef, undef, undef, undef, undef, undef, undef, undef, undef, undef, undef, undef, undef, undef, undef, undef, undef, undef, undef, undef, undef, undef, undef], []⟩ ∧ (D' 13 = false → Later w6 W') ∧ (D' 12 = true → D' 13 = false → ∃ Z, x12 = .slice (some ⟨Z, 0, none⟩) 1 1 ∧ W'.heap[Z]? = some (.cells #[.int .i64 (plM n1), .int .i64 P.deed, .int .i64 P.ht, .int .u32 P.hg, .int .u8 P.hr, .string K, .string Vb, .string O, .int .i64 P.lim, .int .i64 P.ten, .int .u64 P.qk, .int .u64 P.qb, .int .u8 P.rts] 59 (0, 0))) ∧ (D' 13 = true → D' 15 = false → ∃ a3 c3, x13 = .slice a3 (k + 1) c3 ∧ (∃ V8, Later w6 V8 ∧ V8.grownBy W' (Value.slice a k c).ownBlock) ∧ W'.ownsRow (W.heap.size + 2) 59 13 x13 (k + 1) (entC ((es.take k).map entP) ++ (.int .i64 (plM n1) :: D.toList))) ∧ (D' 15 = true → BkS W (.slice (some ⟨X, off, none⟩) n ce) (.slice ap m cp) es ps (k + 1) 0 W') ∧ (D' 0 = true → x0 = .slice a k c) ∧ (D' 1 = true → x1 = .pointer (some ⟨W.heap.size, 0, none⟩)) ∧ (D' 2 = true → x2 = .slice (some ⟨X, off, none⟩) n ce) ∧ (D' 3 = true → x3 = .int .i64 (k : Int)) ∧ (D' 4 = true → x4 = .pointer (some ⟨X, off + k * 13, none⟩)) ∧ (D' 5 = true → x5 = .pointer (some ⟨X, off + k * 13, none⟩)) ∧ (D' 6 = true → x6 = .int .i64 n1) ∧ (D' 7 = true → x7 = .int .i64 (n1.tmod 1000000000)) ∧ (D' 8 = true → x8 = .int .i64 (n1.tmod 1000000000 + 1000000000)) ∧ (D' 9 = true → x9 = .int .i64 (plM n1)) ∧ (D' 10 = true → x10 = .agg #[.int .i64 P.deed, .int .i64 P.ht, .int .u32 P.hg, .int .u8 P.hr, .string K, .string Vb, .string O, .int .i64 P.lim, .int .i64 P.ten, .int .u64 P.qk, .int .u64 P.qb, .int .u8 P.rts]) ∧ (D' 11 = true → x11 = .agg #[.int .i64 (plM n1), .int .i64 P.deed, .int .i64 P.ht, .int .u32 P.hg, .int .u8 P.hr, .string K, .string Vb, .string O, .int .i64 P.lim, .int .i64 P.ten, .int .u64 P.qk, .int .u64 P.qb, .int .u8 P.rts]) ∧ (D' 14 = true → x14 = .pointer (some ⟨W.heap.size + 1, 0, none⟩))) (by kernel_rfl) ?_ ?_ ?_
       ·exact ⟨u99, u100, u101, u102, u103, u104, u105, u106, u107, u108, u109, u110, u111, u112, u113, rfl, (fun _ => (Later.refl w6).drew), (fun h => by cases h), (fun h => by cases h), (fun h => by cases h), (fun h => by cases h), (fun h => by cases h), (fun h => by cases h), (fun h => by cases h), (fun h => by cases h), (fun h => by cases h), (fun h => by cases h), (fun h => by cases h), (fun h => by cases h), (fun h => by cases h), (fun h => by cases h), (fun h => by cases h), (fun h => by cases h)⟩
       ·intro i D' a' W' hi hDi hdep hcl hI
        obtain ⟨x0, x1, x2, x3, x4, x5, x6, x7, x8, x9, x10, x11, x12, x13, x14, rfl, gL, g12, g13, g15, f0, f1, f2, f3, f4, f5, f6, f7, f8, f9, f10, f11, f14⟩ := hI
        have hi' : i = 0 ∨ i = 1 ∨ i = 2 ∨ i = 3 ∨ i = 4 ∨ i = 5 ∨ i = 6 ∨ i = 7 ∨ i = 8 ∨ i = 9 ∨ i = 10 ∨ i = 11 ∨ i = 12 ∨ i = 13 ∨ i = 14 ∨ i = 15 := by
         have : i < 16 := hi
         omega
        rcases hi' with rfl | rfl | rfl | rfl | rfl | rfl | rfl | rfl | rfl | rfl | rfl | rfl | rfl | rfl | rfl | rfl
        ·skip
         refine wpOp_step rfl (fun K' hK' => ?_)
         rw [if_pos (by rfl)]
         go_simp
         exact hK' _ _ ⟨_, x1, x2, x3, x4, x5, x6, x7, x8, x9, x10, x11, x12, x13, x14, rfl, gL, g12, g13, g15, (fun _ => rfl), f1, f2, f3, f4, f5, f6, f7, f8, f9, f10, f11, f14⟩
        ·skip
         refine wpOp_step rfl (fun K' hK' => ?_)
         rw [if_pos (by rfl)]
         go_simp
         exact hK' _ _ ⟨x0, _, x2, x3, x4, x5, x6, x7, x8, x9, x10, x11, x12, x13, x14, rfl, gL, g12, g13, g15, f0, (fun _ => rfl), f2, f3, f4, f5, f6, f7, f8, f9, f10, f11, f14⟩
        ·have q1 := f1 (hdep 1 (by kernel_rfl))
         subst q1
         have h13 : D' 13 = false := by
          cases h : D' 13 with
          | false => rfl
          | true =>
           have b12 := hcl 13 (by decide) h 12 (by kernel_rfl)
           have b11 := hcl 12 (by decide) b12 11 (by kernel_rfl)
           have b9 := hcl 11 (by decide) b11 9 (by kernel_rfl)
           have b8 := hcl 9 (by decide) b9 8 (by kernel_rfl)
           have b7 := hcl 8 (by decide) b8 7 (by kernel_rfl)
           have b6 := hcl 7 (by decide) b7 6 (by kernel_rfl)
           have b5 := hcl 6 (by decide) b6 5 (by kernel_rfl)
           have b4 := hcl 5 (by decide) b5 4 (by kernel_rfl)
           have b2 := hcl 4 (by decide) b4 2 (by kernel_rfl)
           rw [hDi] at b2; cases b2
         have hc := cell_at (gL h13) HCA.out (cell_lt HCA.out)
         refine wpOp_step rfl (fun K' hK' => ?_)
         rw [if_pos (by rfl)]
         go_simp
         exact hK' _ _ ⟨x0, _, _, x3, x4, x5, x6, x7, x8, x9, x10, x11, x12, x13, x14, rfl, gL, g12, g13, g15, f0, (fun _ => rfl), (fun _ => rfl), f3, f4, f5, f6, f7, f8, f9, f10, f11, f14⟩
        ·skip
         refine wpOp_step rfl (fun K' hK' => ?_)
         rw [if_pos (by rfl)]
         go_simp
         exact hK' _ _ ⟨x0, x1, x2, _, x4, x5, x6, x7, x8, x9, x10, x11, x12, x13, x14, rfl, gL, g12, g13, g15, f0, f1, f2, (fun _ => rfl), f4, f5, f6, f7, f8, f9, f10, f11, f14⟩
        ·have q2 := f2 (hdep 2 (by kernel_rfl))
         have q3 := f3 (hdep 3 (by kernel_rfl))
         subst q2
         subst q3
         refine wpOp_step rfl (fun K' hK' => ?_)
         rw [if_pos (by rfl)]
         go_simp
         exact hK' _ _ ⟨x0, x1, _, _, _, x5, x6, x7, x8, x9, x10, x11, x12, x13, x14, rfl, gL, g12, g13, g15, f0, f1, (fun _ => rfl), (fun _ => rfl), (fun _ => rfl), f5, f6, f7, f8, f9, f10, f11, f14⟩
        ·have q4 := f4 (hdep 4 (by kernel_rfl))
         subst q4
         refine wpOp_step rfl (fun K' hK' => ?_)
         rw [if_pos (by rfl)]
         go_simp
         exact hK' _ _ ⟨x0, x1, x2, x3, _, _, x6, x7, x8, x9, x10, x11, x12, x13, x14, rfl, gL, g12, g13, g15, f0, f1, f2, f3, (fun _ => rfl), (fun _ => rfl), f6, f7, f8, f9, f10, f11, f14⟩
        ·have q5 := f5 (hdep 5 (by kernel_rfl))
         subst q5
         have h13 : D' 13 = false := by
          cases h : D' 13 with
          | false => rfl
          | true =>
           have b12 := hcl 13 (by decide) h 12 (by kernel_rfl)
           have b11 := hcl 12 (by decide) b12 11 (by kernel_rfl)
           have b9 := hcl 11 (by decide) b11 9 (by kernel_rfl)
           have b8 := hcl 9 (by decide) b9 8 (by kernel_rfl)
           have b7 := hcl 8 (by decide) b8 7 (by kernel_rfl)
           have b6 := hcl 7 (by decide) b7 6 (by kernel_rfl)
           rw [hDi] at b6; cases b6
         have hc := cell_at (gL h13) HCE.out (cell_lt HCE.out)
         refine wpOp_step rfl (fun K' hK' => ?_)
         rw [if_pos (by rfl)]
         go_simp
         exact hK' _ _ ⟨x0, x1, x2, x3, x4, _, _, x7, x8, x9, x10, x11, x12, x13, x14, rfl, gL, g12, g13, g15, f0, f1, f2, f3, f4, (fun _ => rfl), (fun _ => rfl), f7, f8, f9, f10, f11, f14⟩
        ·have q6 := f6 (hdep 6 (by kernel_rfl))
         subst q6
         refine wpOp_step rfl (fun K' hK' => ?_)
         rw [if_pos (by rfl)]
         go_simp
         exact hK' _ _ ⟨x0, x1, x2, x3, x4, x5, _, _, x8, x9, x10, x11, x12, x13, x14, rfl, gL, g12, g13, g15, f0, f1, f2, f3, f4, f5, (fun _ => rfl), (fun _ => rfl), f8, f9, f10, f11, f14⟩
        ·have q7 := f7 (hdep 7 (by kernel_rfl))
         subst q7
         have nn1 := HN1.out
         refine wpOp_step rfl (fun K' hK' => ?_)
         rw [if_pos (by rfl)]
         go_simp
         exact hK' _ _ ⟨x0, x1, x2, x3, x4, x5, x6, _, _, x9, x10, x11, x12, x13, x14, rfl, gL, g12, g13, g15, f0, f1, f2, f3, f4, f5, f6, (fun _ => rfl), (fun _ => rfl), f9, f10, f11, f14⟩
        ·have q8 := f8 (hdep 8 (by kernel_rfl))
         subst q8
         have nn2 := HN2.out
         refine wpOp_step rfl (fun K' hK' => ?_)
         rw [if_pos (by rfl)]
         go_simp
         exact hK' _ _ ⟨x0, x1, x2, x3, x4, x5, x6, x7, _, _, x10, x11, x12, x13, x14, rfl, gL, g12, g13, g15, f0, f1, f2, f3, f4, f5, f6, f7, (fun _ => rfl), (fun _ => rfl), f10, f11, f14⟩
        ·have h13 : D' 13 = false := by
          cases h : D' 13 with
          | false => rfl
          | true =>
           have b12 := hcl 13 (by decide) h 12 (by kernel_rfl)
           have b11 := hcl 12 (by decide) b12 11 (by kernel_rfl)
           have b10 := hcl 11 (by decide) b11 10 (by kernel_rfl)
           rw [hDi] at b10; cases b10
         have hk6 := ((gL h13).block B6 (Array.getElem?_eq_some_iff.1 HK6.out).1).trans HK6.out
         obtain ⟨e0, e1, e2, e3, e4, e5, e6, e7, e8, e9, e10, e11⟩ := HC.out W' B6 hk6
         refine wpOp_step rfl (fun K' hK' => ?_)
         rw [if_pos (by rfl)]
         go_simp
         exact hK' _ _ ⟨x0, x1, x2, x3, x4, x5, x6, x7, x8, x9, _, x11, x12, x13, x14, rfl, gL, g12, g13, g15, f0, f1, f2, f3, f4, f5, f6, f7, f8, f9, (fun _ => rfl), f11, f14⟩
        ·have q9 := f9 (hdep 9 (by kernel_rfl))
         have q10 := f10 (hdep 10 (by kernel_rfl))
         subst q9
         subst q10
         refine wpOp_step rfl (fun K' hK' => ?_)
         rw [if_pos (by rfl)]
         go_simp
         exact hK' _ _ ⟨x0, x1, x2, x3, x4, x5, x6, x7, x8, _, _, _, x12, x13, x14, rfl, gL, g12, g13, g15, f0, f1, f2, f3, f4, f5, f6, f7, f8, (fun _ => rfl), (fun _ => rfl), (fun _ => rfl), f14⟩
        ·have q11 := f11 (hdep 11 (by kernel_rfl))
         subst q11
         have h13 : D' 13 = false := by
          cases h : D' 13 with
          | false => rfl
          | true =>
           have b12 := hcl 13 (by decide) h 12 (by kernel_rfl)
           rw [hDi] at b12; cases b12
         have h15 := hcl.no h13 (k := 15) (by decide) (by kernel_rfl)
         refine wpOp_step rfl (fun K' hK' => ?_)
         rw [if_pos (by rfl)]
         go_simp
         exact hK' _ _ ⟨x0, x1, x2, x3, x4, x5, x6, x7, x8, x9, x10, _, _, x13, x14, rfl, (fun _ => (gL h13).alloc _), (fun _ _ => ⟨W'.heap.size, rfl, (MapKept.heap_alloc W' _).1⟩), (fun h => absurd (show D' 13 = true from h) (by rw [h13]; decide)), (fun h => absurd (show D' 15 = true from h) (by rw [h15]; decide)), f0, f1, f2, f3, f4, f5, f6, f7, f8, f9, f10, (fun _ => rfl), f14⟩
        ·have q0 := f0 (hdep 0 (by kernel_rfl))
         subst q0
         have h12 := hdep 12 (by kernel_rfl)
         obtain ⟨Z, q12, hZ⟩ := g12 h12 hDi
         subst q12
         have hl := gL hDi
         have h15 := hcl.no hDi (k := 15) (by decide) (by kernel_rfl)
         obtain ⟨i0, hi0, hz0, hz1, hz2⟩ := HI59.out
         refine wpOp_step rfl (fun K' hK' => ?_)
         rw [if_pos (by rfl)]
         refine wp_append_own _ (.tmp 99) (.tmp 111) 42 rfl (W.heap.size + 2) 59 i0 _ 13 120 Tryz.underlying42 hi0 hz0 hz1 hz2 rfl (by decide) (.slice a k c) k (entC ((es.take k).map entP)) rfl (ownsRow_later HST.out.2.1 hl) ⟨Z, 0, none⟩ 1 1 (.int .i64 (plM n1) :: D.toList) rfl (by rw [List.length_cons, Array.length_toList, HDZ.out.1]) ?_ ?_ ?_ ?_ ?_ ?_
         ·intro j u hu
          rw [addr_add0, Lib.cell_of_heap hZ]
          rw [HDZ.out.2.1] at hu
          show #[Value.int .i64 (plM n1), .int .i64 P.deed, .int .i64 P.ht, .int .u32 P.hg, .int .u8 P.hr, .string K, .string Vb, .string O, .int .i64 P.lim, .int .i64 P.ten, .int .u64 P.qk, .int .u64 P.qb, .int .u8 P.rts][j]? = _
          rw [← Array.getElem?_toList]
          exact hu
         ·exact HDZ.out.2.2
         ·unfold maxLen; omega
         ·omega
         ·have := HBS5.out.big; have := hl.size; omega
         ·intro s3 W8 hown8 hgrow _
          obtain ⟨a3, c3, h33⟩ := slice_of_own hown8
          subst h33
          exact hK' _ _ ⟨_, x1, x2, x3, x4, x5, x6, x7, x8, x9, x10, x11, _, _, x14, rfl, (fun h => (updD_self h).elim), (fun _ h => (updD_self h).elim), (fun _ _ => ⟨a3, c3, rfl, ⟨W', hl, hgrow⟩, hown8⟩), (fun h => absurd (show D' 15 = true from h) (by rw [h15]; decide)), (fun _ => rfl), f1, f2, f3, f4, f5, f6, f7, f8, f9, f10, f11, f14⟩
        ·skip
         refine wpOp_step rfl (fun K' hK' => ?_)
         rw [if_pos (by rfl)]
         go_simp
         exact hK' _ _ ⟨x0, x1, x2, x3, x4, x5, x6, x7, x8, x9, x10, x11, x12, x13, _, rfl, gL, g12, g13, g15, f0, f1, f2, f3, f4, f5, f6, f7, f8, f9, f10, f11, (fun _ => rfl)⟩
        ·have q14 := f14 (hdep 14 (by kernel_rfl))
         subst q14
         have h13 := hdep 13 (by kernel_rfl)
         obtain ⟨a3, c3, q13, ⟨V8, hl8, hg8⟩, hown8⟩ := g13 h13 hDi
         subst q13
         have hb8 := HBS5.out.after hl8
         have hS8 := (hl8.block _ (Array.getElem?_eq_some_iff.1 HST.out.1).1).trans HST.out.1
         have hev8 := ownsRow_later HST.out.2.1 hl8
         have hpv8 := ownsRow_later HST.out.2.2 hl8
         obtain ⟨k1, k2, k3⟩ := hb8.grow hev8 hg8
         have hS9 := (k3 (W.heap.size + 1) (by omega)).trans hS8
         have t1 : W'.cell? ⟨W.heap.size + 1, 0, none⟩ = some (.slice a k c) := by rw [Lib.cell_of_heap hS9]; rfl
         have t2 : W'.frozen? ⟨W.heap.size + 1, 0, none⟩ = false := Lib.frozen_of_heap hS9 0
         have hn := hb8.entry hS8 hev8 hpv8 HE.out (by have h := hown8; rw [← HDD.out.1, ← HDD.out.2.2.1] at h; exact h) hg8
         have HNN := Lib.hid hn
         have HFF := Lib.hid (And.intro f0 (And.intro f1 (And.intro f2 (And.intro f3 (And.intro f4 (And.intro f5 (And.intro f6 (And.intro f7 (And.intro f8 (And.intro f9 (And.intro f10 f11)))))))))))
         clear f0 f1 f2 f3 f4 f5 f6 f7 f8 f9 f10 f11 f14 hl8 hg8 hown8 hb8 hS8 hev8 hpv8 k1 k2 k3 hS9 hn gL g12 g13 g15
         refine wpOp_step rfl (fun K' hK' => ?_)
         rw [if_pos (by rfl)]
         go_simp
         exact hK' _ _ ⟨x0, x1, x2, x3, x4, x5, x6, x7, x8, x9, x10, x11, x12, _, _, rfl, (fun h => absurd (show D' 13 = false from h) (by rw [h13]; decide)), (fun _ h => absurd (show D' 13 = false from h) (by rw [h13]; decide)), (fun _ h => (updD_self h).elim), (fun _ => HNN.out), HFF.out.1, HFF.out.2.1, HFF.out.2.2.1, HFF.out.2.2.2.1, HFF.out.2.2.2.2.1, HFF.out.2.2.2.2.2.1, HFF.out.2.2.2.2.2.2.1, HFF.out.2.2.2.2.2.2.2.1, HFF.out.2.2.2.2.2.2.2.2.1, HFF.out.2.2.2.2.2.2.2.2.2.1, HFF.out.2.2.2.2.2.2.2.2.2.2.1, HFF.out.2.2.2.2.2.2.2.2.2.2.2, (fun _ => rfl)⟩
       ·rintro D' a' W' hD' ⟨x0, x1, x2, x3, x4, x5, x6, x7, x8, x9, x10, x11, x12, x13, x14, rfl, gL, g12, g13, g15, f0, f1, f2, f3, f4, f5, f6, f7, f8, f9, f10, f11, f14⟩
        have hfin := g15 (hD' 15 (by decide))
        clear gL g12 g13 g15 f0 f1 f2 f3 f4 f5 f6 f7 f8 f9 f10 f11 f14
        have HFIN := Lib.hid hfin
        clear hfin
        go_wp2_with fail
        go_roundw
        case rel => exact ⟨k + 1, by omega, by omega, by rw [HM.out], by go_num, by rw [HM.out]; exact hbig, HFIN.out⟩
        case measure => simp [intOf]; omega
      ·have t0 : decide ((50000 : Int) < (m3 : Int)) = true := decide_eq_true (by omega)
       go_wp2_with fail
       go_meet
       exact ⟨k, hk100, hkn, HSZ.out, HBS.out.after HV1.out.1⟩
    ·have d1 : decide ((k : Int) < (n : Int)) = true := decide_eq_true (by omega)
     have d2 : decide ((k : Int) < (100 : Int)) = false := decide_eq_false (by omega)
     go_wp2_with fail
     go_meet
     exact ⟨k, hk100, hkn, HSZ.out, HBS.out⟩
   ·have d1 : decide ((k : Int) < (n : Int)) = false := decide_eq_false (by omega)
    go_wp2_with fail
    go_meet
    exact ⟨k, hk100, hkn, HSZ.out, HBS.out⟩
 case rest =>
  obtain ⟨k, hk100, hkn, hsz, hbs⟩ := hcut
  have HK := Lib.hid (And.intro hk100 (And.intro hkn hsz))
  have HB := Lib.hid hbs
  clear hk100 hkn hsz hbs
  go_upto_block 2 with fail
  go_cut [] from 114 to 135 (fun W1 => ∃ j, j ≤ 1000 ∧ j ≤ m ∧ BkS W (.slice ae n ce) (.slice ap m cp) es ps k j W1)
  case first =>
   go_wp2_with fail
   go_loopw [14] (fun i wr => ∃ (j : Nat), j ≤ m ∧ j ≤ 1000 ∧ i = .int .i64 j ∧ BkS W (.slice ae n ce) (.slice ap m cp) es ps k j wr) (fun i _ => m - (RowKit.intOf i).toNat)
   case atStart => exact ⟨0, Nat.zero_le _, by omega, rfl, HB.out⟩
   case round =>
    obtain ⟨j, hjm, hj1000, rfl, hbs⟩ := hrel
    rename World => wr
    have HBS := Lib.hid hbs
    have c0 : wr.cell? ⟨W.heap.size, 1, none⟩ = some (.slice ap m cp) := by rw [Lib.cell_of_heap hbs.arg]; rfl
    clear hbs HB
    by_cases hlt : j < m
    ·by_cases hl2 : j < 1000
     ·have hX := HPV.out wr HBS.out.later
      obtain ⟨ap', cp', hvv, h0 | ⟨X, off, rfl, hrg⟩⟩ := hX
      ·have := HNM.out.2.1; omega
      ·injection hvv with q1 q2 q3
       subst q1
       have hje : j < ps.length := by have := HNM.out.2.1; omega
       obtain ⟨p, hp⟩ : ∃ p, ps[j]? = some p := ⟨_, List.getElem?_eq_getElem hje⟩
       have hcp : wr.cell? ⟨X, off + j, none⟩ = some (.int .i64 p) := by
        have := hrg j hje
        rw [List.getD_eq_getElem?_getD, hp] at this
        exact this
       obtain ⟨a, c, b, d, z1, z2, hown⟩ := HBS.out.st
       have cc1 : wr.cell? ⟨W.heap.size + 1, 1, none⟩ = some (.slice b j d) := by rw [Lib.cell_of_heap z1]; rfl
       have HST := Lib.hid (And.intro z1 (And.intro z2 hown))
       have HP := Lib.hid hp
       have hsz := HBS.out.big
       have hm := HNM.out.2.2.2
       obtain ⟨i0, hi, hz0, hz1, hz2⟩ := HI3.out
       have d1 : decide ((j : Int) < (m : Int)) = true := decide_eq_true (by omega)
       have d2 : decide ((j : Int) < (1000 : Int)) = true := decide_eq_true (by omega)
       clear hrg hp z1 z2 hje q2 q3
       go_wp2_with (at_builtin; refine wpList_append_own _ rfl _ _ 43 rfl (W.heap.size + 2) 3 i0 (.int .i64 0) 1 8 Tryz.underlying43 hi hz0 hz1 hz2 rfl (by decide) _ _ _ rfl (hown.alloc _) ⟨wr.heap.size, 0, none⟩ 1 1 [.int .i64 p] rfl rfl (cell_one_new _ _ _) (by simp [Value.oneCell']) ?c3 ?c4 ?c5 ?_)
       case c3 => unfold maxLen; omega
       case c4 => omega
       case c5 => simp; omega
       intro s3 w6 hown6 hgrow0 _
       have hgrow := (World.grownBy_alloc wr (Obj.cells #[.int .i64 p] 3) (Value.slice b j d).ownBlock).trans hgrow0
       obtain ⟨a3, c9, h33⟩ := slice_of_own hown6
       subst h33
       have hn := HBS.out.pick HST.out.1 HST.out.2.1 HST.out.2.2 HP.out hown6 hgrow
       obtain ⟨k1, k2, k3⟩ := HBS.out.grow hown hgrow
       have hS9 := (k3 (W.heap.size + 1) (by omega)).trans HST.out.1
       have t1 : w6.cell? ⟨W.heap.size + 1, 1, none⟩ = some (.slice b j d) := by rw [Lib.cell_of_heap hS9]; rfl
       have t2 : w6.frozen? ⟨W.heap.size + 1, 1, none⟩ = false := Lib.frozen_of_heap hS9 1
       have HNN := Lib.hid hn
       clear hown hown6 hgrow0 hgrow hn k1 k2 k3 hS9 hi hz0 hz1 hz2
       go_wp2_with fail
       go_roundw
       case rel => exact ⟨j + 1, by omega, by omega, by go_num, HNN.out⟩
       case measure => simp [intOf]; omega
     ·have d1 : decide ((j : Int) < (m : Int)) = true := decide_eq_true (by omega)
      have d2 : decide ((j : Int) < (1000 : Int)) = false := decide_eq_false (by omega)
      go_wp2_with fail
      go_meet
      exact ⟨j, hj1000, hjm, HBS.out⟩
    ·have d1 : decide ((j : Int) < (m : Int)) = false := decide_eq_false (by omega)
     go_wp2_with fail
     go_meet
     exact ⟨j, hj1000, hjm, HBS.out⟩
  case rest =>
   obtain ⟨j, hj1000, hjm, hbs⟩ := hcut
   obtain ⟨a, c, b, d, h1, h2, h3⟩ := hbs.st
   have hle : ((es.take k).map entP).length = k := by
    rw [List.length_map, List.length_take]
    have := HNM.out.1; have := HK.out.2.1; omega
   have hlp : (ps.take j).length = j := by
    rw [List.length_take]
    have := HNM.out.2.1; omega
   have hpl := HPLN.out k HK.out.2.2
   have hinp : ∀ p ∈ ps.take j, inI p := fun p hp => HFIT.out.2.2 p (List.mem_of_mem_take hp)
   obtain ⟨E, hE⟩ : ∃ E, (es.take k).map entP = E := ⟨_, rfl⟩
   obtain ⟨P, hP⟩ : ∃ P, ps.take j = P := ⟨_, rfl⟩
   have hszE := HK.out.2.2
   rw [hE] at hle hpl h2 hszE
   rw [hP] at hlp hinp h3
   obtain ⟨t, ht⟩ := back_fmt E hpl (by rw [hle]; exact HK.out.1) (by omega) P (by rw [hlp]; exact hj1000) hinp
   have hEA : EntsAt wc (.slice a k c) E := EntsAt.of_owns (by rw [hle]; exact h2)
   have hPA : NumsAt wc (.slice b j d) P := NumsAt.of_owns (by rw [hlp]; exact h3)
   have hEF : EsFit E := fun e he => ⟨by have := (hpl e he).1; unfold inI; omega, (hpl e he).2.1⟩
   have hk1 := HK.out.1
   have hb : bigP (E, P) = false := bigP_no (by show E.length ≤ 4096; omega) (by show P.length ≤ 65536; omega)
   have hFM := Format_is (.slice a k c) (.slice b j d) (E, P) wc (HW.out.later hbs.later) hb hEA hPA hEF hinp
   rw [ht] at hFM
   have hps := parse_fmt ht hinp
   obtain ⟨⟨-, -⟩, -, -, -, htl⟩ := fmtP_ok ht
   have hHPA := fun W0 (h0 : Laid W0) => Parse_ok hps W0 h0
   have hHCL : ∀ W0, Calls Tryz.prog 28 #[.string ⟨t.toArray⟩] W0 fun e w' => e = .returned (.bool true) ∧ w' = W0 := fun W0 => Clean_is ⟨t.toArray⟩ (clnT_fmt ht) (by rw [size_mk]; omega) W0
   have hHSM := fun ev pv eu pu W0 => Same_of hps ev pv eu pu W0
   unfold strV at hHPA
   obtain ⟨T, hT⟩ : ∃ T : ByteArray, ⟨t.toArray⟩ = T := ⟨_, rfl⟩
   have hFM2 : Calls Tryz.prog 25 #[.agg #[.slice a k c, .slice b j d]] wc fun e w' => e = .returned (.tuple #[.string T, .int .i64 0]) ∧ Later wc w' := by
    rw [← hT]
    exact hFM.mono fun e w' h => ⟨h.2, h.1⟩
   rw [hT] at hHPA hHCL
   have HFM := Lib.hid hFM2
   have HPA := Lib.hid hHPA
   have HCL := Lib.hid hHCL
   have HSM := Lib.hid hHSM
   have HLW := Lib.hid hbs.later
   have HEP := Lib.hid (And.intro hEA hPA)
   have HBL := Lib.hid h1
   have d0 : wc.cell? ⟨W.heap.size + 1, 0, none⟩ = some (.slice a k c) := by rw [Lib.cell_of_heap h1]; rfl
   have d1 : wc.cell? ⟨W.heap.size + 1, 1, none⟩ = some (.slice b j d) := by rw [Lib.cell_of_heap h1]; rfl
   clear hE hP hle hlp hpl hinp hszE ht hEA hPA hEF hb hFM hFM2 hps htl hHPA hHCL hHSM hT hk1 h1 h2 h3 hbs HPLN HFIT HEV HPV HB
   go_wp2_with fail
   refine HFM.out.mono ?_
   rintro e w1 ⟨rfl, hl1⟩
   have HL1 := Lib.hid hl1
   clear hl1 d0 d1
   go_wp2_with fail
   refine (HPA.out w1 (HW.out.later (HLW.out.trans HL1.out))).mono ?_
   rintro e w2 ⟨hl2, ao, ca, bo, cb, rfl, hE2, hP2⟩
   have HL2 := Lib.hid (HL1.out.trans hl2)
   have HEP2 := Lib.hid (And.intro hE2 hP2)
   clear hl2 hE2 hP2
   go_wp2_with fail
   obtain ⟨n1, hn1⟩ : ∃ n1, (E, P).1.length = n1 := ⟨_, rfl⟩
   obtain ⟨n2, hn2⟩ : ∃ n2, (E, P).2.length = n2 := ⟨_, rfl⟩
   obtain ⟨V, hV⟩ : ∃ V, w2.alloc (.cells #[.slice ao E.length ca, .slice bo P.length cb] 45) = V := ⟨_, rfl⟩
   have hlV : Later w2 V := by rw [← hV]; exact (Later.refl w2).alloc _
   have hkV : V.heap[w2.heap.size]? = some (.cells #[.slice ao E.length ca, .slice bo P.length cb] 45 (0, 0)) := by rw [← hV]; exact (MapKept.heap_alloc w2 _).1
   rw [hV]
   have hlw := HL2.out.trans hlV
   have hk1 := (hlw.block _ (Array.getElem?_eq_some_iff.1 HBL.out).1).trans HBL.out
   have d0 : V.cell? ⟨W.heap.size + 1, 0, none⟩ = some (.slice a k c) := by rw [Lib.cell_of_heap hk1]; rfl
   have d1 : V.cell? ⟨W.heap.size + 1, 1, none⟩ = some (.slice b j d) := by rw [Lib.cell_of_heap hk1]; rfl
   have d2 : V.cell? ⟨w2.heap.size, 0, none⟩ = some (.slice ao E.length ca) := by rw [Lib.cell_of_heap hkV]; rfl
   have d3 : V.cell? ⟨w2.heap.size, 1, none⟩ = some (.slice bo P.length cb) := by rw [Lib.cell_of_heap hkV]; rfl
   have HS := Lib.hid (HSM.out _ _ _ _ V (HEP.out.1.later hlw) (HEP.out.2.later hlw) (HEP2.out.1.later hlV) (HEP2.out.2.later hlV))
   have HLV := Lib.hid (HLW.out.trans hlw)
   clear hV hlV hkV hlw hk1 hn1 hn2
   refine (HCL.out V).mono ?_
   rintro e w3 ⟨rfl, rfl⟩
   go_wp2_with fail
   refine HS.out.mono ?_
   rintro e w4 ⟨rfl, hl4⟩
   have HL4 := Lib.hid (HLV.out.trans hl4)
   clear hl4 d0 d1 d2 d3
   go_wp2_with fail
   refine (awake_is _ (HW.out.later HL4.out)).mono ?_
   rintro e w5 ⟨rfl, hl5⟩
   have HL5 := Lib.hid (HL4.out.trans hl5)
   clear hl5
   go_wp2_with fail
   go_ret
   exact ⟨rfl, HL5.out⟩
end Go.Proofs.YtkbedajbbakihaaGreatDoor
