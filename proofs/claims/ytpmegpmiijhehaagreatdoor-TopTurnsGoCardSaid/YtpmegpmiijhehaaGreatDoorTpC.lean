/- What rvPut makes of the memory; the walks of kernel.Space and kernel.Memory. The walk of ringtop.rvPut. -/
import Derived.Test.YtpmegpmiijhehaaGreatDoorTpA
import Derived.Test.YtpmegpmiijhehaaGreatDoorKerG
import Derived.Test.YtpmegpmiijhehaaGreatDoorSpN
namespace Go.Proofs.YtpmegpmiijhehaaGreatDoor
open Go.RowKit
set_option linter.unusedVariables false
set_option linter.unusedSimpArgs false
section
variable {w w0 w1 w2 : World} {k : KC} {s s0 s' : KSt} {p : Nat}
/-- another memory -/
theorem KG.mem {m' : MS} (h : KG s0 k w w1 s) (hm : MemG w2 k.M k.so s.fr s.sl m') (hu : Upd (mB k.M k.so s.m) w1 w2) (hB : ∀ j, mB k.M k.so m' j → mB k.M k.so s.m j ∨ w1.heap.size ≤ j) : KG s0 k w w2 { s with m := m', tag := tg s.tag w1.heap.size (mB k.M k.so m') 6 } :=
  h.step (h.kt.mem hm hu hB) hu (fun j e => by rw [h.kt.tM j e]; decide) (fun j e => by
    rcases Nat.lt_or_ge j w1.heap.size with q | q
    · have e : tg s.tag w1.heap.size (mB k.M k.so m') 6 j ≠ 0 := e
      rw [tg_old q] at e; exact .inl e
    · exact .inr q)
set_option maxRecDepth 100000 in
set_option maxHeartbeats 400000 in
theorem kspace_is (h : KT w k s) (h1 : 1 ≤ p) (h16 : p ≤ 16) (hl : (s.t p).st = 1) {s1 : Int} (hsp : s.c (8 + p * 38) = .int .i64 s1) : Calls Tryz.prog 38 #[.pointer (some ⟨k.K, 0, none⟩), .int .i64 p] w fun e w' => e = .returned (.tuple #[.int .i64 s1, .int .i64 0]) ∧ w = w' := by
  have HL := Lib.hid (livingP_is h h1 h16 hl)
  have q8 : w.cell? ⟨k.K, 8 + p * 38, none⟩ = some (.int .i64 s1) := by rw [h.kr.cell (by omega), hsp]
  have i17 : (p : Int) < 17 := by omega
  clear h hl hsp
  go_enter Tryz.func38, Tryz.ntmps38
  go_wp2_with (go_at_call 23; refine HL.out.mono ?_; rintro e1 w1 ⟨rfl, rfl⟩)
  go_ret2
  exact ⟨rfl, rfl⟩
set_option maxRecDepth 100000 in
theorem kmem_is (h : KT w k s) : Calls Tryz.prog 39 #[.pointer (some ⟨k.K, 0, none⟩)] w fun e w' => e = .returned (.pointer (some ⟨k.M, 0, none⟩)) ∧ w = w' := by
  have q1 : w.cell? ⟨k.K, 1, none⟩ = some (.pointer (some ⟨k.M, 0, none⟩)) := by rw [h.kr.cell (by decide), h.c1]
  clear h
  go_enter Tryz.func39, Tryz.ntmps39
  go_wp2_with fail
  go_ret
  exact ⟨rfl, rfl⟩
end
/-- what page i of a program has -/
def pgB (L : List Int) (i : Nat) : List Int := (L.drop (16 * i)).take 16
/-- pages that are put, one by one -/
def PutsTo (B0 b : Nat) (f : Nat → Int × List Int) (m : MS) : Nat → MS → Prop
  | 0, m' => m' = m
  | i + 1, m' => ∃ m1, PutsTo B0 b f m i m1 ∧ PutOne B0 m1 m' b i (f i).1 (padF (f i).2)
structure PutFacts (B0 b : Nat) (f : Nat → Int × List Int) (m : MS) (i : Nat) (m' : MS) : Prop where
  S : m'.S = m.S
  nS : m'.nS = m.nS
  len : m'.pl.length = m.pl.length + i
  nF : m'.nF b = m.nF b + i
  fr : ∀ j : Int, (j < 0 ∨ (i : Int) ≤ j) → m'.F b j = m.F b j
  oth : ∀ b', b' ≠ b → m'.F b' = m.F b' ∧ m'.nF b' = m.nF b'
  pv : m'.pv.ownBlock = m.pv.ownBlock ∨ ∃ x, B0 ≤ x ∧ m'.pv.ownBlock = some x
  pl : ∀ g, g ∈ m.pl → g ∈ m'.pl
  nw : ∀ g, g ∈ m'.pl → g ∈ m.pl ∨ B0 ≤ g
  old : ∀ g, g < B0 → m'.d g = m.d g ∧ m'.u g = m.u g
  pg : ∀ j, j < i → ∃ g, B0 ≤ g ∧ g ∈ m'.pl ∧ m'.F b (j : Nat) = some (g, (f j).1) ∧ m'.d g = padF (f j).2 ∧ m'.u g = 1
  inj : ∀ j j' g r r', j < i → j' < i → m'.F b (j : Nat) = some (g, r) → m'.F b (j' : Nat) = some (g, r') → j = j'
theorem PutsTo.facts {B0 b : Nat} {f : Nat → Int × List Int} {m : MS} (hB : ∀ g, g ∈ m.pl → g < B0) : ∀ {i : Nat} {m' : MS}, PutsTo B0 b f m i m' → m'.pl.Nodup → PutFacts B0 b f m i m'
  | 0, m', h, _ => by
    have h : m' = m := h
    subst h
    exact ⟨rfl, rfl, rfl, rfl, fun _ _ => rfl, fun _ _ => ⟨rfl, rfl⟩, .inl rfl, fun _ e => e, fun _ e => .inl e, fun _ _ => ⟨rfl, rfl⟩, fun j hj => absurd hj (Nat.not_lt_zero _), fun j j' g r r' hj => absurd hj (Nat.not_lt_zero _)⟩
  | i + 1, m', ⟨m1, h1, g, v, hg, hv, e⟩, hnd => by
    subst e
    have hpl : (m1.pl ++ [g]).Nodup := hnd
    have hnd1 : m1.pl.Nodup := (List.nodup_append.1 hpl).1
    have hgn : ¬ g ∈ m1.pl := fun q => (List.nodup_append.1 hpl).2.2 g q g (by simp) rfl
    have q := PutsTo.facts hB h1 hnd1
    refine ⟨q.S, q.nS, ?_, ?_, fun j hj => ?_, fun b' hb' => ⟨?_, ?_⟩, ?_, fun x hx => ?_, fun x hx => ?_, fun x hx => ⟨?_, ?_⟩, fun j hj => ?_, fun j j' g1 r r' hj hj' e1 e2 => ?_⟩
    · show (m1.pl ++ [g]).length = _
      rw [List.length_append, q.len]; simp; omega
    · show fup m1.nF b (m1.nF b + 1) b = _
      rw [fup_same, q.nF]; omega
    · show fup m1.F b _ b j = _
      rw [fup_same, if_neg (by push_cast at hj; omega)]
      exact q.fr j (by push_cast at hj; omega)
    · show fup m1.F b _ b' = _
      rw [fup_off _ _ hb']; exact (q.oth b' hb').1
    · show fup m1.nF b _ b' = _
      rw [fup_off _ _ hb']; exact (q.oth b' hb').2
    · show v.ownBlock = _ ∨ ∃ x, B0 ≤ x ∧ v.ownBlock = some x
      rcases hv with z | z
      · rw [z]; exact q.pv
      · exact .inr z
    · exact List.mem_append.2 (.inl (q.pl x hx))
    · rcases List.mem_append.1 hx with z | z
      · exact q.nw x z
      · simp at z; subst z; exact .inr hg
    · show fup m1.d g _ x = _
      rw [fup_off _ _ (by omega)]; exact (q.old x hx).1
    · show fup m1.u g _ x = _
      rw [fup_off _ _ (by omega)]; exact (q.old x hx).2
    · by_cases ej : j = i
      · subst ej
        exact ⟨g, hg, List.mem_append.2 (.inr (by simp)), by show fup m1.F b _ b _ = _; rw [fup_same, if_pos rfl], by show fup m1.d g _ g = _; rw [fup_same], by show fup m1.u g _ g = _; rw [fup_same]⟩
      · obtain ⟨g0, a1, a2, a3, a4, a5⟩ := q.pg j (by omega)
        have hne : g0 ≠ g := fun z => hgn (z ▸ a2)
        refine ⟨g0, a1, List.mem_append.2 (.inl a2), ?_, ?_, ?_⟩
        · show fup m1.F b _ b _ = _
          rw [fup_same, if_neg (by omega)]; exact a3
        · show fup m1.d g _ g0 = _
          rw [fup_off _ _ hne]; exact a4
        · show fup m1.u g _ g0 = _
          rw [fup_off _ _ hne]; exact a5
    · have f1 : ∀ n : Nat, n ≠ i → fup m1.F b (fun j => if j = (i : Int) then some (g, (f i).1) else m1.F b j) b n = m1.F b n := fun n hn => by rw [fup_same, if_neg (by omega)]
      have f2 : fup m1.F b (fun j => if j = (i : Int) then some (g, (f i).1) else m1.F b j) b i = some (g, (f i).1) := by rw [fup_same, if_pos rfl]
      have e1 : fup m1.F b (fun j => if j = (i : Int) then some (g, (f i).1) else m1.F b j) b j = some (g1, r) := e1
      have e2 : fup m1.F b (fun j => if j = (i : Int) then some (g, (f i).1) else m1.F b j) b j' = some (g1, r') := e2
      have key : ∀ n : Nat, n < i + 1 → n ≠ i → ∀ x r2, fup m1.F b (fun j => if j = (i : Int) then some (g, (f i).1) else m1.F b j) b n = some (x, r2) → x ≠ g := fun n hn hni x r2 hx z => by
        obtain ⟨g0, a1, a2, a3, -, -⟩ := q.pg n (by omega)
        rw [f1 n hni, a3] at hx
        injection hx with hx
        injection hx with hx
        exact hgn (by rw [← z, ← hx]; exact a2)
      by_cases ej : j = i
      · by_cases ej' : j' = i
        · omega
        · exfalso
          subst ej
          rw [f2] at e1
          injection e1 with e1
          injection e1 with e1
          exact key j' hj' ej' _ _ e2 e1.symm
      · by_cases ej' : j' = i
        · exfalso
          subst ej'
          rw [f2] at e2
          injection e2 with e2
          injection e2 with e2
          exact key j hj ej _ _ e1 e2.symm
        · rw [f1 j ej] at e1
          rw [f1 j' ej'] at e2
          exact q.inj j j' g1 r r' (by omega) (by omega) e1 e2
theorem PutOne.mB {B0 b : Nat} {m m' : MS} {a r : Int} {d : Nat → Int} (h : PutOne B0 m m' b a r d) {M so j : Nat} (hj : mB M so m' j) : mB M so m j ∨ B0 ≤ j := by
  obtain ⟨g, v, hg, hv, rfl⟩ := h
  rcases hj with q | q | q | ⟨s, q⟩ | q
  · exact .inl (.inl q)
  · exact .inl (.inr (.inl q))
  · have q : v.ownBlock = some j := q
    rcases hv with z | ⟨x, z1, z2⟩
    · exact .inl (.inr (.inr (.inl (by rw [← z]; exact q))))
    · rw [z2] at q; injection q with q; exact .inr (by omega)
  · exact .inl (.inr (.inr (.inr (.inl ⟨s, q⟩))))
  · have q : j ∈ m.pl ++ [g] := q
    rcases List.mem_append.1 q with z | z
    · exact .inl (.inr (.inr (.inr (.inr z))))
    · simp at z; exact .inr (by omega)
theorem Unm.mB {b : Nat} {n : Int} {m m' : MS} (h : Unm m m' b n) {M so j : Nat} (hj : mB M so m' j) : mB M so m j := by
  rcases hj with q | q | q | ⟨s, q⟩ | q
  · exact .inl q
  · exact .inr (.inl q)
  · exact .inr (.inr (.inl (by rw [← h.pv]; exact q)))
  · exact .inr (.inr (.inr (.inl ⟨s, by rw [← h.S]; exact q⟩)))
  · exact .inr (.inr (.inr (.inr (by rw [← h.pl]; exact q))))
end Go.Proofs.YtpmegpmiijhehaaGreatDoor
namespace Go.Proofs.YtpmegpmiijhehaaGreatDoor
open Go.RowKit
set_option linter.unusedVariables false
set_option linter.unusedSimpArgs false
def slB (x : Value) (a b c : Option Value) : Sem Value := Instr.sliceAt 49 x a b c
theorem sl_byt (x : Value) (a b c : Option Value) : Instr.sliceAt 49 x a b c = slB x a b c := rfl
def behindB (bl lo cap : Nat) : Addr := if cap = lo then ⟨bl, 0, none⟩ else ⟨bl, lo, none⟩
theorem slB_mid {bl L cap lo hi : Nat} (h1 : lo ≤ hi) (h2 : hi ≤ L) (hc : L ≤ cap) (w : World) : (slB (.slice (some ⟨bl, 0, none⟩) L cap) (some (.int .i64 lo)) (some (.int .i64 hi)) none).run Tryz.prog w = .ok (.slice (some (behindB bl lo cap)) (hi - lo) (cap - lo)) w := by
  have e1 : (lo : Int) ≤ (hi : Int) := by omega
  have e2 : (hi : Int) ≤ (cap : Int) := by omega
  have e3 : hi ≤ cap := by omega
  simp [slB, Instr.sliceAt, Instr.slice, Instr.sliceBounds, Instr.sliceBound, asIntOf, run_underlying Tryz.underlying49, e1, e2, e3, h1, go_sem, behindB]
  (try (split <;> rfl))
theorem PutOne.base {B0 B1 b : Nat} {m m' : MS} {a r : Int} {d : Nat → Int} (h : PutOne B1 m m' b a r d) (hB : B0 ≤ B1) : PutOne B0 m m' b a r d := by
  obtain ⟨g, v, hg, hv, e⟩ := h
  refine ⟨g, v, by omega, ?_, e⟩
  rcases hv with q | ⟨x, q1, q2⟩
  · exact .inl q
  · exact .inr ⟨x, by omega, q2⟩
theorem ob_cells {B : Nat} {w : World} {v : Value} {L : List Int} (h : OB B w v L) (hL : 0 < L.length) : ∃ bl cap, v = .slice (some ⟨bl, 0, none⟩) L.length cap ∧ L.length ≤ cap ∧ B ≤ bl ∧ ∀ j u, (L.map u8V)[j]? = some u → w.cell? ⟨bl, j, none⟩ = some u := by
  rcases h.2 with ⟨he, hn⟩ | ⟨g2, c2, cur, he, hB, hgg, hlc, hcm, hcs, htk⟩
  · omega
  · refine ⟨g2, c2, he, hlc, hB, fun j u hu => ?_⟩
    have hj : j < L.length := by have := (List.getElem?_eq_some_iff.1 hu).1; simpa using this
    have e : (cur.toList.take (L.length * 1))[j]? = (L.map u8V)[j]? := by rw [← htk]
    rw [List.getElem?_take, if_pos (by omega), Array.getElem?_toList] at e
    rw [cell_of_row w g2 j _ _ _ hgg, e]
    exact hu
/-- what the pages of a program are: its bytes, and an empty one -/
def pgF (L : List Int) (i : Nat) : Int × List Int := if i < 4 then (5, pgB L i) else (3, [])
/-- what rvPut asks of a space: its first pages are shared, or not there -/
structure MayPut (s : KSt) (p : Nat) (s1 : Int) (b : Nat) : Prop where
  p1 : 1 ≤ p
  p16 : p ≤ 16
  lv : (s.t p).st = 1
  sp : s.c (8 + p * 38) = .int .i64 s1
  wf : (Lit.int .i64 s1).wf = true
  ms : s.m.S s1 = some b
  lone : Lone (s.m.F b)
  sh : ∀ k g r, 0 ≤ k → k < 5 → s.m.F b k = some (g, r) → g ∈ s.m.pl ∧ 2 ≤ s.m.u g ∧ s.m.u g < 1000000
  len : (s.m.pl.length : Int) + 5 ≤ s.fr
  nF : s.m.nF b < 9000
section
variable {w : World} {k : KC} {s : KSt} {p b : Nat} {s1 : Int} {v : Value} {l : List CodeLaw.Ins}
attribute [local go_sem ↓] sl_byt
set_option maxRecDepth 100000 in
set_option maxHeartbeats 2000000 in
theorem put_prog (h : KT w k s) (hp : MayPut s p s1 b) (hv : InsL w v l) (he : EncOk l) (hl : 0 < l.length) (hl2 : l.length ≤ 16) :
    Calls Tryz.prog 12 #[.pointer (some ⟨k.K, 0, none⟩), .int .i64 p, v] w fun e w' => e = .returned (.bool true) ∧ ∃ m1 m' tag', Unm s.m m1 b 5 ∧ PutsTo w.heap.size b (pgF (progB l)) m1 5 m' ∧ KG s k w w' { s with m := m', tag := tag' } := by
  have HW := Lib.hid (words_is hv he (by omega))
  obtain ⟨L, hL⟩ : ∃ L, L = progB l := ⟨_, rfl⟩
  have hLl : L.length = l.length * 4 := by rw [hL, progB_len]
  rw [← hL] at HW ⊢
  have HH := Lib.hid h
  have HP := Lib.hid hp
  have HLN : Hid (0 < L.length ∧ L.length ≤ 64) := Lib.hid ⟨by omega, by omega⟩
  clear h hp hv he hl hl2 hL hLl
  go_enter Tryz.func12, Tryz.ntmps12
  go_upto_region 2 with (go_at_call 37; refine HW.out.mono ?_; rintro e1 w1 ⟨u, rfl, ho1, hb1⟩)
  have HK1 := Lib.hid (HH.out.keep hb1)
  have HO1 := Lib.hid ho1
  have HB1 := Lib.hid hb1
  clear HW ho1 hb1
  have HSP := Lib.hid (kspace_is HK1.out HP.out.p1 HP.out.p16 HP.out.lv HP.out.sp)
  have HME := Lib.hid (kmem_is HK1.out)
  have HUN := Lib.hid (unmap_is HK1.out.me (n := 5) HP.out.ms HP.out.wf (by decide) (by decide) HP.out.lone (fun k g r h0 h5 hF => HP.out.sh k g r (by omega) (by omega) hF))
  go_upto_region 7 with (first | (go_at_call 38; refine HSP.out.mono ?_; rintro e2 w2 ⟨rfl, rfl⟩) | (go_at_call 39; refine HME.out.mono ?_; rintro e2 w2 ⟨rfl, rfl⟩) | (go_at_call 40; refine HUN.out.mono ?_; rintro e2 w2 ⟨rfl, m1, hm1, hmm1, hmu1⟩))
  have k2 := (HH.out.start.keep HB1.out).mem hmm1 hmu1 (fun j e => .inl (hm1.mB e))
  obtain ⟨bl, cap, rfl, hcap, hbl, hcell⟩ := ob_cells HO1.out HLN.out.1
  have HU : Hid (∀ (s' : KSt) (wr w' : World) (S : Nat → Prop), KT wr k s' → s'.tag bl = 0 → (∀ j, S j → s'.tag j ≠ 0) → Upd S wr w' → OB w.heap.size wr (.slice (some ⟨bl, 0, none⟩) L.length cap) L → OB w.heap.size w' (.slice (some ⟨bl, 0, none⟩) L.length cap) L) := Lib.hid fun s' wr w' S hk ht hS hu ho => ho.upd hu (fun g e q => by
    have e : some bl = some g := e
    injection e with e
    subst e
    exact hS _ q ht)
  have HBL : Hid (w.heap.size ≤ bl ∧ bl < w1.heap.size) := Lib.hid ⟨hbl, (HO1.out.lt bl rfl).2⟩
  have hz1 : s.tag bl = 0 := HH.out.tz bl hbl
  have ho2 := HU.out _ _ _ _ HK1.out hz1 (fun j e => by rw [HK1.out.tM j e]; decide) hmu1 HO1.out
  have HR0 : Hid (∃ mi tg, PutsTo w.heap.size b (pgF L) m1 0 mi ∧ KG s k w w2 { s with m := mi, tag := tg } ∧ tg bl = 0 ∧ OB w.heap.size w2 (.slice (some ⟨bl, 0, none⟩) L.length cap) L) := Lib.hid ⟨m1, _, rfl, k2, by rw [tg_old HBL.out.2]; exact hz1, ho2⟩
  have HM1 := Lib.hid hm1
  have HCAP := Lib.hid (And.intro hcap hcell)
  have HND : Hid (∀ g, g ∈ m1.pl → g < w.heap.size) := Lib.hid fun g hg => HH.out.me.lt (.inr (.inr (.inr (.inr (by rw [hm1.pl] at hg; exact hg)))))
  have HFR : Hid (∀ j : Int, 0 ≤ j → j < 5 → m1.F b j = none) := Lib.hid fun j h0 h5 => by rw [hm1.F, fup_same, if_pos ⟨h0, h5⟩]
  have L64 : (L.length : Int) ≤ 64 := by have := HLN.out.2; omega
  have L0 : (0 : Int) < L.length := by have := HLN.out.1; omega
  have HPT := Lib.hid (fun (i : Nat) (hi : i < 5) (mi : MS) (tg : Nat → Nat) (wr : World) (hpu : PutsTo w.heap.size b (pgF L) m1 i mi) (hkg : KG s k w wr { s with m := mi, tag := tg }) (r : Int) (hr : 0 ≤ r ∧ r ≤ 7) (l : List Int) (dp : Option Addr) (dc : Nat) (h16 : l.length ≤ 16) hsrc => (have hf := PutsTo.facts HND.out hpu hkg.kt.me.nd; put_is hkg.kt.me (s := s1) (a := i) (r := r) (b := b) (dp := dp) (dc := dc) (l := l) (by rw [hf.S, HM1.out.S]; exact HP.out.ms) HP.out.wf (by omega) (by omega) hr.1 hr.2 (by rw [hf.fr _ (by omega)]; exact HFR.out _ (by omega) (by omega)) (by have := hkg.kt.fn; exact ⟨by omega, by omega⟩) (by have := hkg.kt.fn; exact ⟨by omega, by omega⟩) (by
        have h1 := List.countP_le_length (p := mi.h) (l := mi.pl)
        have h2 := HP.out.len
        have h3 := hf.len
        rw [HM1.out.pl] at h3
        show ((mi.pl.countP mi.h : Nat) : Int) < s.fr
        omega) (by
        have h2 := HP.out.len
        have h3 := hf.len
        have h4 := hkg.kt.fn.2.2.1
        rw [HM1.out.pl] at h3
        show (mi.pl.length : Int) + 1 ≤ s.fr + s.sl
        have h4 : 0 ≤ s.sl := h4
        omega) (by have := HP.out.nF; rw [hf.nF, HM1.out.nF]; omega) h16 hsrc))
  have HKK := Lib.hid (fun (i : Nat) (mi : MS) (tg : Nat → Nat) (wr w3 : World) (m' : MS) (hpu : PutsTo w.heap.size b (pgF L) m1 i mi) (hkg : KG s k w wr { s with m := mi, tag := tg }) (htz : tg bl = 0) (hob : OB w.heap.size wr (.slice (some ⟨bl, 0, none⟩) L.length cap) L) (r : Int) (l : List Int) (hpg : pgF L i = (r, l)) (hp1 : PutOne wr.heap.size mi m' b i r (padF l)) (hm3 : MemG w3 k.M k.so s.fr s.sl m') (hu3 : Upd (mB k.M k.so mi) wr w3) => (show ∃ mi' tg', PutsTo w.heap.size b (pgF L) m1 (i + 1) mi' ∧ KG s k w w3 { s with m := mi', tag := tg' } ∧ tg' bl = 0 ∧ OB w.heap.size w3 (.slice (some ⟨bl, 0, none⟩) L.length cap) L from
        ⟨m', _, ⟨mi, hpu, by
          rw [hpg]
          exact hp1.base hkg.up.size⟩, hkg.mem hm3 hu3 (fun j e => hp1.mB e), by
          rw [tg_old ((hob.lt bl rfl).2)]; exact htz, HU.out _ _ _ _ hkg.kt htz (fun j e => by rw [hkg.kt.tM j e]; decide) hu3 hob⟩))
  clear k2 hm1 hmm1 hmu1 hcap hbl hcell hz1 ho2 HUN HSP HME HK1 HO1 HB1
  obtain ⟨n, hn⟩ : ∃ n, n = L.length := ⟨_, rfl⟩
  rw [← hn] at L64 L0 HR0 HU HCAP HKK ⊢
  have HN := Lib.hid hn
  clear hn
  go_wp2_with fail
  go_loopw [37] (fun kv wr => ∃ i : Nat, i ≤ 4 ∧ kv = .int .i64 i ∧ Hid (∃ mi tg, PutsTo w.heap.size b (pgF L) m1 i mi ∧ KG s k w wr { s with m := mi, tag := tg } ∧ tg bl = 0 ∧ OB w.heap.size wr (.slice (some ⟨bl, 0, none⟩) n cap) L)) (fun kv _ => 4 - (intOf kv).toNat)
  case atStart => exact ⟨0, Nat.zero_le _, rfl, HR0⟩
  case round =>
    obtain ⟨i, hi0, rfl, HR⟩ := hrel
    by_cases hi4 : i < 4
    · have i1 : (i : Int) < 4 := by omega
      obtain ⟨mi, tg, hpu, hkg, htz, hob⟩ := HR.out
      have HPU := Lib.hid hpu
      have HKG := Lib.hid hkg
      have HTZ := Lib.hid htz
      have HOB := Lib.hid hob
      obtain ⟨lo6, hlo6⟩ : ∃ x : Nat, x = i * 16 := ⟨_, rfl⟩
      obtain ⟨hi6, hhi6⟩ : ∃ x : Nat, x = (i + 1) * 16 := ⟨_, rfl⟩
      have e16 : (i : Int) * 16 = (lo6 : Int) := by rw [hlo6]; push_cast; rfl
      have e17 : ((i : Int) + 1) * 16 = (hi6 : Int) := by rw [hhi6]; push_cast; rfl
      have b6 : (lo6 : Int) ≤ 48 := by omega
      have b7 : (hi6 : Int) ≤ 64 := by omega
      obtain ⟨lo, hi, hlh, hlen, hc3⟩ : ∃ lo hi : Nat, (lo ≤ hi ∧ hi ≤ n) ∧ (pgB L i).length = hi - lo ∧ ((hi6 < n ∧ lo6 < hi6 ∧ hi6 = hi ∧ lo6 = lo) ∨ (¬ hi6 < n ∧ lo6 < n ∧ n = hi ∧ lo6 = lo) ∨ (¬ hi6 < n ∧ ¬ lo6 < n ∧ n = hi ∧ n = lo)) := by
        have hpl : (pgB L i).length = min 16 (n - 16 * i) := by
          unfold pgB
          rw [List.length_take, List.length_drop, ← HN.out]
        by_cases q : hi6 < n
        · exact ⟨lo6, hi6, by omega, by omega, .inl ⟨q, by omega, rfl, rfl⟩⟩
        · by_cases q2 : lo6 < n
          · exact ⟨lo6, n, by omega, by omega, .inr (.inl ⟨q, q2, rfl, rfl⟩)⟩
          · exact ⟨n, n, by omega, by omega, .inr (.inr ⟨q, q2, rfl, rfl⟩)⟩
      have hsl := fun w => slB_mid (bl := bl) (L := n) (cap := cap) hlh.1 hlh.2 HCAP.out.1 w
      have HSRC : Hid (0 < ((pgB L i).map u8V).length → ∃ ad, some (behindB bl lo cap) = some ad ∧ ∀ j v, ((pgB L i).map u8V)[j]? = some v → wr.cell? (ad.add j) = some v) := Lib.hid fun hp => by
        rw [List.length_map, hlen] at hp
        obtain ⟨bl', cap', e, hcp, -, hcell⟩ := ob_cells (show OB w.heap.size wr (.slice (some ⟨bl, 0, none⟩) n cap) L from hob) HLN.out.1
        rw [← HN.out] at e
        injection e with e _ e2
        injection e with e
        injection e with e
        subst e
        subst e2
        have hcl : ¬ cap = lo := by have := HCAP.out.1; omega
        refine ⟨⟨bl, lo, none⟩, by unfold behindB; rw [if_neg hcl], fun j v hv => ?_⟩
        have hj : j < hi - lo := by have := (List.getElem?_eq_some_iff.1 hv).1; rw [List.length_map, hlen] at this; exact this
        have hlo16 : lo = 16 * i := by rcases hc3 with ⟨_, _, _, q⟩ | ⟨_, _, _, q⟩ | ⟨_, _, q1, q2⟩ <;> omega
        rw [Addr.add_lit]
        refine hcell (lo + j) v ?_
        rw [← hv, List.getElem?_map, List.getElem?_map]
        congr 1
        unfold pgB
        rw [List.getElem?_take, if_pos (by omega), List.getElem?_drop, hlo16]
      have h16 : (pgB L i).length ≤ 16 := by unfold pgB; rw [List.length_take]; omega
      have HP1 := Lib.hid (HPT.out i (by omega) mi tg wr hpu hkg 5 ⟨by decide, by decide⟩ (pgB L i) _ (cap - lo) h16 HSRC.out)
      rw [hlen] at HP1
      have HLH := Lib.hid hlh
      have HK1 := Lib.hid (fun w3 m' => HKK.out i mi tg wr w3 m' hpu hkg htz hob 5 (pgB L i) (by unfold pgF; rw [if_pos hi4]))
      clear hpu hkg htz hob HSRC hlo6 hhi6 hlen h16
      rcases hc3 with ⟨q1, q2, rfl, rfl⟩ | ⟨q1, q2, rfl, rfl⟩ | ⟨q1, q2, rfl, rfl⟩
      · go_upto_region 12 with (go_at_call 41; refine HP1.out.mono ?_; rintro e3 w3 ⟨rfl, m', hp1, hm3, hu3⟩; have HR3 := Lib.hid (HK1.out w3 m' hp1 hm3 hu3); clear hp1 hm3 hu3)
        go_wp2_with fail
        go_roundw
        case rel => exact ⟨i + 1, by omega, by go_num, HR3⟩
        case measure => simp [intOf]; omega
      · go_upto_region 12 with (go_at_call 41; refine HP1.out.mono ?_; rintro e3 w3 ⟨rfl, m', hp1, hm3, hu3⟩; have HR3 := Lib.hid (HK1.out w3 m' hp1 hm3 hu3); clear hp1 hm3 hu3)
        go_wp2_with fail
        go_roundw
        case rel => exact ⟨i + 1, by omega, by go_num, HR3⟩
        case measure => simp [intOf]; omega
      · rw [Nat.sub_self] at HP1
        go_upto_region 12 with (go_at_call 41; refine HP1.out.mono ?_; rintro e3 w3 ⟨rfl, m', hp1, hm3, hu3⟩; have HR3 := Lib.hid (HK1.out w3 m' hp1 hm3 hu3); clear hp1 hm3 hu3)
        go_wp2_with fail
        go_roundw
        case rel => exact ⟨i + 1, by omega, by go_num, HR3⟩
        case measure => simp [intOf]; omega
    · obtain rfl : i = 4 := by omega
      obtain ⟨mi, tg, hpu, hkg, htz, hob⟩ := HR.out
      have HP1 := Lib.hid (HPT.out 4 (by decide) mi tg wr hpu hkg 3 ⟨by decide, by decide⟩ [] none 0 (by decide) (fun q => absurd q (by decide)))
      have HK1 := Lib.hid (fun w3 m' => HKK.out 4 mi tg wr w3 m' hpu hkg htz hob 3 [] rfl)
      clear hpu hkg htz hob
      rw [show ((4 : Nat) : Int) = 4 from rfl] at HP1 HK1
      go_wp2_with (go_at_call 41; refine HP1.out.mono ?_; rintro e3 w3 ⟨rfl, m', hp1, hm3, hu3⟩; have HR3 := Lib.hid (HK1.out w3 m' hp1 hm3 hu3); clear hp1 hm3 hu3)
      go_ret
      obtain ⟨mi', tg', hpu', hkg', -, -⟩ := HR3.out
      exact ⟨rfl, m1, mi', tg', HM1.out, hpu', hkg'⟩
end
end Go.Proofs.YtpmegpmiijhehaaGreatDoor
