/- The walk of ringtop.rvPut. Walks of ringtop's rvRest, rvLoop, rvLoops. The walks of package spread at any run: Pick, Tick. -/
import Derived.Test.YtnbhohaphmilmaaGreatDoorTpB
import Derived.Test.YtnbhohaphmilmaaGreatDoorProcPlain
import Derived.BigQuiet
namespace Go.Proofs.YtnbhohaphmilmaaGreatDoor
open Go.RowKit
set_option linter.unusedVariables false
set_option linter.unusedSimpArgs false
def slB (x : Value) (a b c : Option Value) : Sem Value := Instr.sliceAt 54 x a b c
theorem sl_byt (x : Value) (a b c : Option Value) : Instr.sliceAt 54 x a b c = slB x a b c := rfl
def behindB (bl lo cap : Nat) : Addr := if cap = lo then ⟨bl, 0, none⟩ else ⟨bl, lo, none⟩
theorem slB_mid {bl L cap lo hi : Nat} (h1 : lo ≤ hi) (h2 : hi ≤ L) (hc : L ≤ cap) (w : World) : (slB (.slice (some ⟨bl, 0, none⟩) L cap) (some (.int .i64 lo)) (some (.int .i64 hi)) none).run Tryz.prog w = .ok (.slice (some (behindB bl lo cap)) (hi - lo) (cap - lo)) w := by
  have e1 : (lo : Int) ≤ (hi : Int) := by omega
  have e2 : (hi : Int) ≤ (cap : Int) := by omega
  have e3 : hi ≤ cap := by omega
  simp [slB, Instr.sliceAt, Instr.slice, Instr.sliceBounds, Instr.sliceBound, asIntOf, run_underlying Tryz.underlying54, e1, e2, e3, h1, go_sem, behindB]
  (try (split <;> rfl))
theorem PutOne.base {B0 B1 b : Nat} {m m' : MS} {a r : Int} {d : Nat → Int} (h : PutOne B1 m m' b a r d) (hB : B0 ≤ B1) : PutOne B0 m m' b a r d := by
  obtain ⟨g, v, hg, hv, e⟩ := h
  refine ⟨g, v, by omega, ?_, e⟩
  rcases hv with q | ⟨x, q1, q2⟩
  · exact .inl q
  · exact .inr ⟨x, by omega, q2⟩
theorem ob_cells {B : Nat} {w : World} {v : Value} {L : List Int} (h : OB B w v L) (hL : 0 < L.length) : ∃ bl cap, v = .slice (some ⟨bl, 0, none⟩) L.length cap ∧ L.length ≤ cap ∧ B ≤ bl ∧ ∀ j u, (L.map u8V)[j]? = some u → w.cell? ⟨bl, j, none⟩ = some u := by
  rcases h.2 with ⟨he, hn⟩ | ⟨g2, c2, cur, he, hB, hgg, hlc, hcm, hcs, htk⟩
  · omega
  · refine ⟨g2, c2, he, hlc, hB, fun j u hu => ?_⟩
    have hj : j < L.length := by have := (List.getElem?_eq_some_iff.1 hu).1; simpa using this
    have e : (cur.toList.take (L.length * 1))[j]? = (L.map u8V)[j]? := by rw [← htk]
    rw [List.getElem?_take, if_pos (by omega), Array.getElem?_toList] at e
    rw [cell_of_row w g2 j _ _ _ hgg, e]
    exact hu
/-- what the pages of a program are: its bytes, and an empty one -/
def pgF (L : List Int) (i : Nat) : Int × List Int := if i < 4 then (5, pgB L i) else (3, [])
/-- what rvPut asks of a space: its first pages are shared, or not there -/
structure MayPut (s : KSt) (p : Nat) (s1 : Int) (b : Nat) : Prop where
  p1 : 1 ≤ p
  p16 : p ≤ 16
  lv : (s.t p).st = 1
  sp : s.c (8 + p * 38) = .int .i64 s1
  wf : (Lit.int .i64 s1).wf = true
  ms : s.m.S s1 = some b
  lone : Lone (s.m.F b)
  sh : ∀ k g r, 0 ≤ k → k < 5 → s.m.F b k = some (g, r) → g ∈ s.m.pl ∧ 2 ≤ s.m.u g ∧ s.m.u g < 1000000
  len : (s.m.pl.length : Int) + 5 ≤ s.fr
  nF : s.m.nF b < 9000
section
variable {w : World} {k : KC} {s : KSt} {p b : Nat} {s1 : Int} {v : Value} {l : List CodeLaw.Ins}
attribute [local go_sem ↓] sl_byt
set_option maxRecDepth 100000 in
set_option maxHeartbeats 2000000 in
theorem put_prog (h : KT w k s) (hp : MayPut s p s1 b) (hv : InsL w v l) (he : EncOk l) (hl : 0 < l.length) (hl2 : l.length ≤ 16) :
    Calls Tryz.prog 13 #[.pointer (some ⟨k.K, 0, none⟩), .int .i64 p, v] w fun e w' => e = .returned (.bool true) ∧ ∃ m1 m' tag', Unm s.m m1 b 5 ∧ PutsTo w.heap.size b (pgF (progB l)) m1 5 m' ∧ KG s k w w' { s with m := m', tag := tag' } := by
  have HW := Lib.hid (words_is hv he (by omega))
  obtain ⟨L, hL⟩ : ∃ L, L = progB l := ⟨_, rfl⟩
  have hLl : L.length = l.length * 4 := by rw [hL, progB_len]
  rw [← hL] at HW ⊢
  have HH := Lib.hid h
  have HP := Lib.hid hp
  have HLN : Hid (0 < L.length ∧ L.length ≤ 64) := Lib.hid ⟨by omega, by omega⟩
  clear h hp hv he hl hl2 hL hLl
  go_enter Tryz.func13, Tryz.ntmps13
  go_upto_region 2 with (go_at_call 34; refine HW.out.mono ?_; rintro e1 w1 ⟨u, rfl, ho1, hb1⟩)
  have HK1 := Lib.hid (HH.out.keep hb1)
  have HO1 := Lib.hid ho1
  have HB1 := Lib.hid hb1
  clear HW ho1 hb1
  have HSP := Lib.hid (kspace_is HK1.out HP.out.p1 HP.out.p16 HP.out.lv HP.out.sp)
  have HME := Lib.hid (kmem_is HK1.out)
  have HUN := Lib.hid (unmap_is HK1.out.me (n := 5) HP.out.ms HP.out.wf (by decide) (by decide) HP.out.lone (fun k g r h0 h5 hF => HP.out.sh k g r (by omega) (by omega) hF))
  go_upto_region 7 with (first | (go_at_call 35; refine HSP.out.mono ?_; rintro e2 w2 ⟨rfl, rfl⟩) | (go_at_call 18; refine HME.out.mono ?_; rintro e2 w2 ⟨rfl, rfl⟩) | (go_at_call 36; refine HUN.out.mono ?_; rintro e2 w2 ⟨rfl, m1, hm1, hmm1, hmu1⟩))
  have k2 := (HH.out.start.keep HB1.out).mem hmm1 hmu1 (fun j e => .inl (hm1.mB e))
  obtain ⟨bl, cap, rfl, hcap, hbl, hcell⟩ := ob_cells HO1.out HLN.out.1
  have HU : Hid (∀ (s' : KSt) (wr w' : World) (S : Nat → Prop), KT wr k s' → s'.tag bl = 0 → (∀ j, S j → s'.tag j ≠ 0) → Upd S wr w' → OB w.heap.size wr (.slice (some ⟨bl, 0, none⟩) L.length cap) L → OB w.heap.size w' (.slice (some ⟨bl, 0, none⟩) L.length cap) L) := Lib.hid fun s' wr w' S hk ht hS hu ho => ho.upd hu (fun g e q => by
    have e : some bl = some g := e
    injection e with e
    subst e
    exact hS _ q ht)
  have HBL : Hid (w.heap.size ≤ bl ∧ bl < w1.heap.size) := Lib.hid ⟨hbl, (HO1.out.lt bl rfl).2⟩
  have hz1 : s.tag bl = 0 := HH.out.tz bl hbl
  have ho2 := HU.out _ _ _ _ HK1.out hz1 (fun j e => by rw [HK1.out.tM j e]; decide) hmu1 HO1.out
  have HR0 : Hid (∃ mi tg, PutsTo w.heap.size b (pgF L) m1 0 mi ∧ KG s k w w2 { s with m := mi, tag := tg } ∧ tg bl = 0 ∧ OB w.heap.size w2 (.slice (some ⟨bl, 0, none⟩) L.length cap) L) := Lib.hid ⟨m1, _, rfl, k2, by rw [tg_old HBL.out.2]; exact hz1, ho2⟩
  have HM1 := Lib.hid hm1
  have HCAP := Lib.hid (And.intro hcap hcell)
  have HND : Hid (∀ g, g ∈ m1.pl → g < w.heap.size) := Lib.hid fun g hg => HH.out.me.lt (.inr (.inr (.inr (.inr (by rw [hm1.pl] at hg; exact hg)))))
  have HFR : Hid (∀ j : Int, 0 ≤ j → j < 5 → m1.F b j = none) := Lib.hid fun j h0 h5 => by rw [hm1.F, fup_same, if_pos ⟨h0, h5⟩]
  have L64 : (L.length : Int) ≤ 64 := by have := HLN.out.2; omega
  have L0 : (0 : Int) < L.length := by have := HLN.out.1; omega
  have HPT := Lib.hid (fun (i : Nat) (hi : i < 5) (mi : MS) (tg : Nat → Nat) (wr : World) (hpu : PutsTo w.heap.size b (pgF L) m1 i mi) (hkg : KG s k w wr { s with m := mi, tag := tg }) (r : Int) (hr : 0 ≤ r ∧ r ≤ 7) (l : List Int) (dp : Option Addr) (dc : Nat) (h16 : l.length ≤ 16) hsrc => (have hf := PutsTo.facts HND.out hpu hkg.kt.me.nd; put_is hkg.kt.me (s := s1) (a := i) (r := r) (b := b) (dp := dp) (dc := dc) (l := l) (by rw [hf.S, HM1.out.S]; exact HP.out.ms) HP.out.wf (by omega) (by omega) hr.1 hr.2 (by rw [hf.fr _ (by omega)]; exact HFR.out _ (by omega) (by omega)) (by have := hkg.kt.fn; exact ⟨by omega, by omega⟩) (by have := hkg.kt.fn; exact ⟨by omega, by omega⟩) (by
        have h1 := List.countP_le_length (p := mi.h) (l := mi.pl)
        have h2 := HP.out.len
        have h3 := hf.len
        rw [HM1.out.pl] at h3
        show ((mi.pl.countP mi.h : Nat) : Int) < s.fr
        omega) (by
        have h2 := HP.out.len
        have h3 := hf.len
        have h4 := hkg.kt.fn.2.2.1
        rw [HM1.out.pl] at h3
        show (mi.pl.length : Int) + 1 ≤ s.fr + s.sl
        have h4 : 0 ≤ s.sl := h4
        omega) (by have := HP.out.nF; rw [hf.nF, HM1.out.nF]; omega) h16 hsrc))
  have HKK := Lib.hid (fun (i : Nat) (mi : MS) (tg : Nat → Nat) (wr w3 : World) (m' : MS) (hpu : PutsTo w.heap.size b (pgF L) m1 i mi) (hkg : KG s k w wr { s with m := mi, tag := tg }) (htz : tg bl = 0) (hob : OB w.heap.size wr (.slice (some ⟨bl, 0, none⟩) L.length cap) L) (r : Int) (l : List Int) (hpg : pgF L i = (r, l)) (hp1 : PutOne wr.heap.size mi m' b i r (padF l)) (hm3 : MemG w3 k.M k.so s.fr s.sl m') (hu3 : Upd (mB k.M k.so mi) wr w3) => (show ∃ mi' tg', PutsTo w.heap.size b (pgF L) m1 (i + 1) mi' ∧ KG s k w w3 { s with m := mi', tag := tg' } ∧ tg' bl = 0 ∧ OB w.heap.size w3 (.slice (some ⟨bl, 0, none⟩) L.length cap) L from
        ⟨m', _, ⟨mi, hpu, by
          rw [hpg]
          exact hp1.base hkg.up.size⟩, hkg.mem hm3 hu3 (fun j e => hp1.mB e), by
          rw [tg_old ((hob.lt bl rfl).2)]; exact htz, HU.out _ _ _ _ hkg.kt htz (fun j e => by rw [hkg.kt.tM j e]; decide) hu3 hob⟩))
  clear k2 hm1 hmm1 hmu1 hcap hbl hcell hz1 ho2 HUN HSP HME HK1 HO1 HB1
  obtain ⟨n, hn⟩ : ∃ n, n = L.length := ⟨_, rfl⟩
  rw [← hn] at L64 L0 HR0 HU HCAP HKK ⊢
  have HN := Lib.hid hn
  clear hn
  go_wp2_with fail
  go_loopw [37] (fun kv wr => ∃ i : Nat, i ≤ 4 ∧ kv = .int .i64 i ∧ Hid (∃ mi tg, PutsTo w.heap.size b (pgF L) m1 i mi ∧ KG s k w wr { s with m := mi, tag := tg } ∧ tg bl = 0 ∧ OB w.heap.size wr (.slice (some ⟨bl, 0, none⟩) n cap) L)) (fun kv _ => 4 - (intOf kv).toNat)
  case atStart => exact ⟨0, Nat.zero_le _, rfl, HR0⟩
  case round =>
    obtain ⟨i, hi0, rfl, HR⟩ := hrel
    by_cases hi4 : i < 4
    · have i1 : (i : Int) < 4 := by omega
      obtain ⟨mi, tg, hpu, hkg, htz, hob⟩ := HR.out
      have HPU := Lib.hid hpu
      have HKG := Lib.hid hkg
      have HTZ := Lib.hid htz
      have HOB := Lib.hid hob
      obtain ⟨lo6, hlo6⟩ : ∃ x : Nat, x = i * 16 := ⟨_, rfl⟩
      obtain ⟨hi6, hhi6⟩ : ∃ x : Nat, x = (i + 1) * 16 := ⟨_, rfl⟩
      have e16 : (i : Int) * 16 = (lo6 : Int) := by rw [hlo6]; push_cast; rfl
      have e17 : ((i : Int) + 1) * 16 = (hi6 : Int) := by rw [hhi6]; push_cast; rfl
      have b6 : (lo6 : Int) ≤ 48 := by omega
      have b7 : (hi6 : Int) ≤ 64 := by omega
      obtain ⟨lo, hi, hlh, hlen, hc3⟩ : ∃ lo hi : Nat, (lo ≤ hi ∧ hi ≤ n) ∧ (pgB L i).length = hi - lo ∧ ((hi6 < n ∧ lo6 < hi6 ∧ hi6 = hi ∧ lo6 = lo) ∨ (¬ hi6 < n ∧ lo6 < n ∧ n = hi ∧ lo6 = lo) ∨ (¬ hi6 < n ∧ ¬ lo6 < n ∧ n = hi ∧ n = lo)) := by
        have hpl : (pgB L i).length = min 16 (n - 16 * i) := by
          unfold pgB
          rw [List.length_take, List.length_drop, ← HN.out]
        by_cases q : hi6 < n
        · exact ⟨lo6, hi6, by omega, by omega, .inl ⟨q, by omega, rfl, rfl⟩⟩
        · by_cases q2 : lo6 < n
          · exact ⟨lo6, n, by omega, by omega, .inr (.inl ⟨q, q2, rfl, rfl⟩)⟩
          · exact ⟨n, n, by omega, by omega, .inr (.inr ⟨q, q2, rfl, rfl⟩)⟩
      have hsl := fun w => slB_mid (bl := bl) (L := n) (cap := cap) hlh.1 hlh.2 HCAP.out.1 w
      have HSRC : Hid (0 < ((pgB L i).map u8V).length → ∃ ad, some (behindB bl lo cap) = some ad ∧ ∀ j v, ((pgB L i).map u8V)[j]? = some v → wr.cell? (ad.add j) = some v) := Lib.hid fun hp => by
        rw [List.length_map, hlen] at hp
        obtain ⟨bl', cap', e, hcp, -, hcell⟩ := ob_cells (show OB w.heap.size wr (.slice (some ⟨bl, 0, none⟩) n cap) L from hob) HLN.out.1
        rw [← HN.out] at e
        injection e with e _ e2
        injection e with e
        injection e with e
        subst e
        subst e2
        have hcl : ¬ cap = lo := by have := HCAP.out.1; omega
        refine ⟨⟨bl, lo, none⟩, by unfold behindB; rw [if_neg hcl], fun j v hv => ?_⟩
        have hj : j < hi - lo := by have := (List.getElem?_eq_some_iff.1 hv).1; rw [List.length_map, hlen] at this; exact this
        have hlo16 : lo = 16 * i := by rcases hc3 with ⟨_, _, _, q⟩ | ⟨_, _, _, q⟩ | ⟨_, _, q1, q2⟩ <;> omega
        rw [Addr.add_lit]
        refine hcell (lo + j) v ?_
        rw [← hv, List.getElem?_map, List.getElem?_map]
        congr 1
        unfold pgB
        rw [List.getElem?_take, if_pos (by omega), List.getElem?_drop, hlo16]
      have h16 : (pgB L i).length ≤ 16 := by unfold pgB; rw [List.length_take]; omega
      have HP1 := Lib.hid (HPT.out i (by omega) mi tg wr hpu hkg 5 ⟨by decide, by decide⟩ (pgB L i) _ (cap - lo) h16 HSRC.out)
      rw [hlen] at HP1
      have HLH := Lib.hid hlh
      have HK1 := Lib.hid (fun w3 m' => HKK.out i mi tg wr w3 m' hpu hkg htz hob 5 (pgB L i) (by unfold pgF; rw [if_pos hi4]))
      clear hpu hkg htz hob HSRC hlo6 hhi6 hlen h16
      rcases hc3 with ⟨q1, q2, rfl, rfl⟩ | ⟨q1, q2, rfl, rfl⟩ | ⟨q1, q2, rfl, rfl⟩
      · go_upto_region 12 with (go_at_call 37; refine HP1.out.mono ?_; rintro e3 w3 ⟨rfl, m', hp1, hm3, hu3⟩; have HR3 := Lib.hid (HK1.out w3 m' hp1 hm3 hu3); clear hp1 hm3 hu3)
        go_wp2_with fail
        go_roundw
        case rel => exact ⟨i + 1, by omega, by go_num, HR3⟩
        case measure => simp [intOf]; omega
      · go_upto_region 12 with (go_at_call 37; refine HP1.out.mono ?_; rintro e3 w3 ⟨rfl, m', hp1, hm3, hu3⟩; have HR3 := Lib.hid (HK1.out w3 m' hp1 hm3 hu3); clear hp1 hm3 hu3)
        go_wp2_with fail
        go_roundw
        case rel => exact ⟨i + 1, by omega, by go_num, HR3⟩
        case measure => simp [intOf]; omega
      · rw [Nat.sub_self] at HP1
        go_upto_region 12 with (go_at_call 37; refine HP1.out.mono ?_; rintro e3 w3 ⟨rfl, m', hp1, hm3, hu3⟩; have HR3 := Lib.hid (HK1.out w3 m' hp1 hm3 hu3); clear hp1 hm3 hu3)
        go_wp2_with fail
        go_roundw
        case rel => exact ⟨i + 1, by omega, by go_num, HR3⟩
        case measure => simp [intOf]; omega
    · obtain rfl : i = 4 := by omega
      obtain ⟨mi, tg, hpu, hkg, htz, hob⟩ := HR.out
      have HP1 := Lib.hid (HPT.out 4 (by decide) mi tg wr hpu hkg 3 ⟨by decide, by decide⟩ [] none 0 (by decide) (fun q => absurd q (by decide)))
      have HK1 := Lib.hid (fun w3 m' => HKK.out 4 mi tg wr w3 m' hpu hkg htz hob 3 [] rfl)
      clear hpu hkg htz hob
      rw [show ((4 : Nat) : Int) = 4 from rfl] at HP1 HK1
      go_wp2_with (go_at_call 37; refine HP1.out.mono ?_; rintro e3 w3 ⟨rfl, m', hp1, hm3, hu3⟩; have HR3 := Lib.hid (HK1.out w3 m' hp1 hm3 hu3); clear hp1 hm3 hu3)
      go_ret
      obtain ⟨mi', tg', hpu', hkg', -, -⟩ := HR3.out
      exact ⟨rfl, m1, mi', tg', HM1.out, hpu', hkg'⟩
end
end Go.Proofs.YtnbhohaphmilmaaGreatDoor
namespace Go.Proofs.YtnbhohaphmilmaaGreatDoor
open Go.RowKit
set_option linter.unusedVariables false
set_option linter.unusedSimpArgs false
/-- the program that goes round -/
def loopL : List CodeLaw.Ins := [⟨14, 1, 1, 1⟩, ⟨19, 0, 0, -4⟩]
theorem u64_mod (k n : Int) (h0 : 0 < n) (h9 : n < 1000) : ∃ r : Nat, (r : Int) < n ∧ wrap64 ((IntKind.u64.wrap k).tmod n) = r := by
  have hk : 0 ≤ IntKind.u64.wrap k := by
    have e : IntKind.u64.wrap k = k % 18446744073709551616 := by simp [IntKind.wrap, IntKind.signed, IntKind.bits]
    rw [e]
    exact Int.emod_nonneg _ (by decide)
  rw [Int.tmod_eq_emod_of_nonneg hk]
  have h1 := Int.emod_nonneg (IntKind.u64.wrap k) (show n ≠ 0 by omega)
  have h2 := Int.emod_lt_of_pos (IntKind.u64.wrap k) h0
  rw [IntWalk.wrap64_in _ (by omega)]
  exact ⟨((IntKind.u64.wrap k) % n).toNat, by omega, by omega⟩
theorem rest_is (w : World) (k : Int) {n : Int} (h0 : 0 < n) (h9 : n < 1000) : Calls Tryz.prog 6 #[.int .i64 k, .int .i64 n] w fun e w' => ∃ r : Nat, (r : Int) < n ∧ e = .returned (.int .i64 r) ∧ w' = w := by
  obtain ⟨r, hr, er⟩ := u64_mod k n h0 h9
  have hw : IntKind.u64.wrap n = n := IntWalk.u64_in n (by omega)
  have hn : ¬ n = 0 := by omega
  have HR := Lib.hid hr
  go_enter Tryz.func6, Tryz.ntmps6
  go_wp2_with fail
  go_ret
  exact ⟨r, HR.out, by rw [er]; rfl, rfl⟩
theorem loop_is (w : World) : Calls Tryz.prog 14 #[] w fun e w' => ∃ b, w.heap.size ≤ b ∧ b < w'.heap.size ∧ e = .returned (.slice (some ⟨b, 0, none⟩) 2 2) ∧ InsL w' (.slice (some ⟨b, 0, none⟩) 2 2) loopL ∧ Below w.heap.size w w' := by
  have hal := Go.Joins.below_alloc1 w (.cells #[.int .i64 14, .int .i64 1, .int .i64 1, .int .i64 1, .int .i64 19, .int .i64 0, .int .i64 0, .int .i64 (-4)] 89)
  have hr := row_new w 89 #[.int .i64 14, .int .i64 1, .int .i64 1, .int .i64 1, .int .i64 19, .int .i64 0, .int .i64 0, .int .i64 (-4)]
  have HA := Lib.hid hal
  have HR := Lib.hid hr
  clear hal hr
  go_enter Tryz.func14, Tryz.ntmps14
  go_wp2_with fail
  go_ret
  refine ⟨w.heap.size, Nat.le_refl _, by simp, rfl, ⟨w.heap.size, 2, rfl, fun i x hx => ?_⟩, HA.out⟩
  match i, hx with
  | 0, hx => injection hx with hx; subst hx; exact ⟨HR.out.cell 0, HR.out.cell 1, HR.out.cell 2, HR.out.cell 3⟩
  | 1, hx => injection hx with hx; subst hx; exact ⟨HR.out.cell 4, HR.out.cell 5, HR.out.cell 6, HR.out.cell 7⟩
/-- so many programs that go round -/
structure LpL (B : Nat) (w : World) (v : Value) (n : Nat) (xs : List Value) : Prop where
  own : w.ownsRow B 44 1 v n xs
  len : xs.length = n
  one : ∀ x ∈ xs, ∃ b, x = .slice (some ⟨b, 0, none⟩) 2 2 ∧ b < w.heap.size ∧ InsL w x loopL ∧ v.ownBlock ≠ some b
theorem InsL.upd {S : Nat → Prop} {w w' : World} {b c : Nat} {l : List CodeLaw.Ins} {L : Nat} (h : InsL w (.slice (some ⟨b, 0, none⟩) L c) l) (hu : Upd S w w') (hn : ¬ S b) : InsL w' (.slice (some ⟨b, 0, none⟩) L c) l := by
  obtain ⟨b', cap, e, hc⟩ := h
  injection e with e e1 e2
  injection e with e
  injection e with e
  subst e
  refine ⟨b, cap, by rw [e1, e2], fun i x hx => ?_⟩
  obtain ⟨c0, c1, c2, c3⟩ := hc i x hx
  have hl : b < w.heap.size := World.block_lt_of_cell? w _ c0
  exact ⟨(hu.cell hl hn).trans c0, (hu.cell hl hn).trans c1, (hu.cell hl hn).trans c2, (hu.cell hl hn).trans c3⟩
theorem LpL.upd {B n : Nat} {S : Nat → Prop} {w w' : World} {v : Value} {xs : List Value} (h : LpL B w v n xs) (hu : Upd S w w') (hS : ∀ b, b < w.heap.size → ¬ S b) : LpL B w' v n xs :=
  ⟨hu.owns h.own (fun g hg => hS g (h.own.lt g hg).2), h.len, fun x hx => by
    obtain ⟨b, rfl, hb, hi, hv⟩ := h.one x hx
    exact ⟨b, rfl, Nat.lt_of_lt_of_le hb hu.size, hi.upd hu (hS b hb), hv⟩⟩
theorem LpL.keep {B n : Nat} {w w' : World} {v : Value} {xs : List Value} (h : LpL B w v n xs) (hb : Below w.heap.size w w') : LpL B w' v n xs := h.upd (S := fun _ => False) (Upd.below hb) (fun _ _ e => e)
end Go.Proofs.YtnbhohaphmilmaaGreatDoor
namespace Go.Proofs.YtnbhohaphmilmaaGreatDoor
open Go.RowKit
set_option linter.unusedVariables false
set_option linter.unusedSimpArgs false
section
variable {w w' : World} {R cap : Nat} {ad : Option Addr} {cpus ticks pin : Int} {l : List Tk}
/-- who runs on a processor: 0 is nobody -/
def onT (l : List Tk) (c : Int) : Int := match onG l c with
  | none => 0
  | some i => match l[i]? with
    | none => 0
    | some x => x.t
theorem onG_some {c : Int} {i : Nat} (h : onG l c = some i) : ∃ x, l[i]? = some x ∧ x.cpu = c := by
  unfold onG at h
  rw [List.findIdx?_eq_some_iff_getElem] at h
  obtain ⟨hi, e, _⟩ := h
  exact ⟨l[i], List.getElem?_eq_getElem hi, by simpa using e⟩
set_option maxRecDepth 100000 in
set_option maxHeartbeats 400000 in
theorem pick_yes {m i : Nat} {x : Tk} (h : RunG w R ad cap m ticks pin l) {c : Nat} (hc : c < m) (ho : onG l c = some i) (hx : l[i]? = some x) : Calls Tryz.prog 43 #[.pointer (some ⟨R, 0, none⟩), .int .i64 c] w fun e w' => e = .returned (.tuple #[.int .i64 x.t, .int .i64 0]) ∧ w = w' := by
  have c0 := h.c0
  have j1 : ¬ (c : Int) < 0 := by omega
  have j2 : (c : Int) < m := by omega
  obtain ⟨T, C, rfl, hr⟩ := h.rows (by have := (List.getElem?_eq_some_iff.1 hx).1; omega)
  have HO := Lib.hid (onG_is h c)
  rw [ho, ptrG_some] at HO
  have t0 := (hr.cell (i * 15)).trans (hr.at hx).c0
  clear h ho hr hx
  go_enter Tryz.func43, Tryz.ntmps43
  go_wp2_with (go_at_call 92; refine HO.out.mono ?_; rintro e1 w1 ⟨rfl, rfl⟩)
  go_ret2
  exact ⟨rfl, rfl⟩
set_option maxRecDepth 100000 in
set_option maxHeartbeats 400000 in
theorem pick_no {m : Nat} (h : RunG w R ad cap m ticks pin l) {c : Nat} (hc : c < m) (ho : onG l c = none) : Calls Tryz.prog 43 #[.pointer (some ⟨R, 0, none⟩), .int .i64 c] w fun e w' => e = .returned (.tuple #[.int .i64 0, .int .i64 4]) ∧ w = w' := by
  have c0 := h.c0
  have j1 : ¬ (c : Int) < 0 := by omega
  have j2 : (c : Int) < m := by omega
  have HO := Lib.hid (onG_is h c)
  rw [ho, ptrG_none] at HO
  clear h ho
  go_enter Tryz.func43, Tryz.ntmps43
  go_wp2_with (go_at_call 92; refine HO.out.mono ?_; rintro e1 w1 ⟨rfl, rfl⟩)
  go_ret2
  exact ⟨rfl, rfl⟩
set_option maxRecDepth 100000 in
theorem cost10_is (w : World) : Calls Tryz.prog 108 #[.int .i64 10] w fun e w' => e = .returned (.tuple #[.int .i64 104857, .int .i64 0]) ∧ w = w' := by
  go_enter Tryz.func108, Tryz.ntmps108
  go_wp2_with fail
  go_ret2
  exact ⟨rfl, rfl⟩
set_option maxRecDepth 100000 in
set_option maxHeartbeats 400000 in
theorem time_is {m : Nat} (h : RunG w R ad cap m ticks pin l) (h1 : 1 ≤ m) (h4 : m ≤ 4) : Calls Tryz.prog 109 #[.pointer (some ⟨R, 0, none⟩)] w fun e w' => ∃ q, e = .returned (.int .i64 q) ∧ Below w.heap.size w w' := by
  have c0 := h.c0
  have c1 := h.c1
  clear h
  have : m = 1 ∨ m = 2 ∨ m = 3 ∨ m = 4 := by omega
  rcases this with rfl | rfl | rfl | rfl
  all_goals
    clear h1 h4
    go_enter Tryz.func109, Tryz.ntmps109
    go_upto_region 1 with fail
    go_quiet (fail)
    generalize hnq : w.drewN _ = w9 at *
    go_wp2_with fail
    go_ret
    exact ⟨_, rfl, by rw [← hnq]; exact below_drewN (Below.refl _ _) _⟩
/-- the tasks behind a tick of a processor -/
def stepAt (l : List Tk) (i : Nat) : List Tk := match l[i]? with
  | none => l
  | some x => l.set i { x with v := x.v + 104857, cpu := -1 }
def tickL (l : List Tk) (c : Int) (m : Nat) : List Tk := match onG l c with
  | none => fillG l m
  | some i => fillG (stepAt l i) m
theorem onG_setV {c : Int} {i : Nat} {x : Tk} (h : onG l c = some i) (hx : l[i]? = some x) (v : Int) : onG (l.set i { x with v := v }) c = some i := by
  unfold onG at h ⊢
  rw [List.findIdx?_eq_some_iff_getElem] at h ⊢
  obtain ⟨hi, e, hj⟩ := h
  obtain ⟨hi2, e2⟩ := List.getElem?_eq_some_iff.1 hx
  refine ⟨by simpa using hi, ?_, fun j hj2 => ?_⟩
  · simp only [List.getElem_set_self]
    rw [← e2]
    exact e
  · rw [List.getElem_set_ne (by omega)]
    exact hj j hj2
set_option maxRecDepth 100000 in
set_option maxHeartbeats 1000000 in
theorem tick_no {m : Nat} (h : RunG w R ad cap m ticks (onePin m) l) {c : Nat} (hc : c < m) (hm : m ≤ 4) (t0 : 0 ≤ ticks) (t1 : ticks < 1000000) (ho : onG l c = none) : Calls Tryz.prog 50 #[.pointer (some ⟨R, 0, none⟩), .int .i64 c] w fun e w' => e = .returned (.int .i64 0) ∧ RunG w' R ad cap m (ticks + 1) (onePin m) (fillG l m) ∧ Upd (rS R ad) w w' := by
  have j1 : ¬ (c : Int) < 0 := by omega
  have j2 : (c : Int) < m := by omega
  have c0 := h.c0
  have c1 := h.c1
  have f1 := h.fz 1
  have hmx := h.mx
  have HH1 := Lib.hid (h.setTicks (ticks + 1))
  have HU1 : Hid (Upd (rS R ad) w (w.setCell ⟨R, 1, none⟩ (.int .i64 (ticks + 1)))) := Lib.hid (Upd.set w _ (.inl rfl))
  clear h
  obtain ⟨w1, hw1⟩ : ∃ w1, w1 = w.setCell ⟨R, 1, none⟩ (.int .i64 (ticks + 1)) := ⟨_, rfl⟩
  rw [← hw1] at HH1 HU1
  have HON := Lib.hid (onG_is HH1.out c)
  rw [ho, ptrG_none] at HON
  have HTI := Lib.hid (time_is HH1.out (by omega) hm)
  have HO := Lib.hid ho
  have HM := Lib.hid hm
  clear ho
  have HW1 := Lib.hid hw1
  clear hw1
  go_enter Tryz.func50, Tryz.ntmps50
  go_upto_region 4 with fail
  rw [← HW1.out]
  clear HW1 c0 c1 f1 t0 t1
  go_upto_region 15 with (first | (go_at_call 92; refine HON.out.mono ?_; rintro e1 w2 ⟨rfl, rfl⟩) | (go_at_call 109; refine HTI.out.mono ?_; rintro e2 w2 ⟨q, rfl, hb2⟩; have HH2 := Lib.hid (HH1.out.keep hb2); have HU2 := Lib.hid (HU1.out.trans (Upd.below hb2)); clear hb2))
  have c3 := HH2.out.c3
  obtain ⟨n, hn⟩ : ∃ n, n = l.length := ⟨_, rfl⟩
  rw [← hn] at c3 hmx
  have HN := Lib.hid hn
  clear hn
  have HON2 := Lib.hid (onG_is HH2.out c)
  rw [HO.out, ptrG_none] at HON2
  have HF := Lib.hid (fillG_is HH2.out (onePin_ok (by have := HM.out; omega)) (by have := HM.out; omega))
  go_wp2_with fail
  go_loop [85] (fun i => ∃ k : Nat, k ≤ n ∧ i = .int .i64 k) (fun i => n - (intOf i).toNat)
  case atStart => exact ⟨0, Nat.zero_le _, rfl⟩
  case round =>
    obtain ⟨k, hk0, rfl⟩ := hrel
    by_cases hk : k < n
    · have jk : (k : Int) < n := by omega
      obtain ⟨T', C, hT', hr⟩ := HH2.out.rows (by have := HN.out; omega)
      subst hT'
      obtain ⟨y, hy⟩ : ∃ y, l[k]? = some y := ⟨l[k]'(by have := HN.out; omega), List.getElem?_eq_getElem _⟩
      have t13 := (hr.cell (k * 15 + 13)).trans (hr.at hy).c13
      clear hr hy
      go_wp2_with fail
      go_round
      case rel => exact ⟨k + 1, by omega, by go_num⟩
      case measure => simp [intOf]; omega
    · obtain rfl : k = n := by omega
      go_wp2_with (first | (go_at_call 92; refine HON2.out.mono ?_; rintro e3 w3 ⟨rfl, rfl⟩) | (go_at_call 111; refine HF.out.mono ?_; rintro e4 w4 ⟨rfl, hr4, hu4⟩; have HR4 := Lib.hid hr4; have HU4 := Lib.hid (HU2.out.trans hu4); clear hr4 hu4))
      go_ret
      exact ⟨rfl, HR4.out, HU4.out⟩
set_option maxRecDepth 100000 in
set_option maxHeartbeats 1000000 in
theorem tick_yes {m T i : Nat} {x : Tk} (h : RunG w R (some ⟨T, 0, none⟩) cap m ticks (onePin m) l) {c : Nat} (hc : c < m) (hm : m ≤ 4) (t0 : 0 ≤ ticks) (t1 : ticks < 1000000) (ho : onG l c = some i) (hx : l[i]? = some x) (v0 : 0 ≤ x.v) (v1 : x.v < 1000000000000) : Calls Tryz.prog 50 #[.pointer (some ⟨R, 0, none⟩), .int .i64 c] w fun e w' => e = .returned (.int .i64 0) ∧ RunG w' R (some ⟨T, 0, none⟩) cap m (ticks + 1) (onePin m) (fillG (stepAt l i) m) ∧ Upd (rS R (some ⟨T, 0, none⟩)) w w' := by
  have j1 : ¬ (c : Int) < 0 := by omega
  have j2 : (c : Int) < m := by omega
  have c0 := h.c0
  have c1 := h.c1
  have f1 := h.fz 1
  have hmx := h.mx
  have hil := (List.getElem?_eq_some_iff.1 hx).1
  obtain ⟨T', C, e, hr⟩ := h.rows (by omega)
  injection e with e; injection e with e; subst e
  have ne1 := hr.ne
  have ne2 : R ≠ T := fun e => ne1 e.symm
  have a1 := (hr.cell (i * 15 + 1)).trans (hr.at hx).c1
  have a2 := (hr.cell (i * 15 + 2)).trans (hr.at hx).c2
  have a9 := (hr.cell (i * 15 + 9)).trans (hr.at hx).c9
  have f9 := hr.row.fz (i * 15 + 9)
  have HCO := Lib.hid (cost10_is (w.setCell ⟨R, 1, none⟩ (.int .i64 (ticks + 1))))
  have HON := Lib.hid (onG_is (h.setTicks (ticks + 1)) c)
  rw [ho, ptrG_some] at HON
  have hx2 : (l.set i { x with v := x.v + 104857 })[i]? = some { x with v := x.v + 104857 } := by rw [List.getElem?_set]; simp [hil]
  have HH1 := Lib.hid ((h.setTicks (ticks + 1)).setV hx (x.v + 104857))
  have HU1 : Hid (Upd (rS R (some ⟨T, 0, none⟩)) w ((w.setCell ⟨R, 1, none⟩ (.int .i64 (ticks + 1))).setCell ⟨T, i * 15 + 9, none⟩ (.int .i64 (x.v + 104857)))) := Lib.hid ((Upd.set w _ (.inl rfl)).trans (Upd.set _ _ (.inr ⟨_, rfl, rfl⟩)))
  have HON0 := Lib.hid (onG_is HH1.out c)
  rw [onG_setV ho hx, ptrG_some] at HON0
  have HTI := Lib.hid (time_is HH1.out (by omega) hm)
  have HX2 := Lib.hid hx2
  have HM := Lib.hid hm
  have HSA : Hid (stepAt l i = (l.set i { x with v := x.v + 104857 }).set i { x with v := x.v + 104857, cpu := -1 }) := Lib.hid (by unfold stepAt; rw [hx]; simp)
  have HOS := Lib.hid (onG_setV ho hx (x.v + 104857))
  have HLN : Hid ((l.set i { x with v := x.v + 104857 }).length = l.length) := Lib.hid (by simp)
  clear h hr ho hx hx2 hil
  go_enter Tryz.func50, Tryz.ntmps50
  go_upto_region 14 with (first | (go_at_call 92; refine HON.out.mono ?_; rintro e1 w2 ⟨rfl, rfl⟩) | (go_at_call 108; refine HCO.out.mono ?_; rintro e1 w2 ⟨rfl, rfl⟩))
  generalize (w.setCell ⟨R, 1, none⟩ (.int .i64 (ticks + 1))).setCell ⟨T, i * 15 + 9, none⟩ (.int .i64 (x.v + 104857)) = w1 at *
  clear c0 c1 f1 t0 t1 a1 a2 a9 f9 v0 v1 HON HCO
  generalize l.set i { x with v := x.v + 104857 } = l1 at *
  go_upto_region 15 with (go_at_call 109; refine HTI.out.mono ?_; rintro e2 w2 ⟨q, rfl, hb2⟩; have HH2 := Lib.hid (HH1.out.keep hb2); have HU2 := Lib.hid (HU1.out.trans (Upd.below hb2)); clear hb2)
  have c3 := HH2.out.c3
  obtain ⟨n, hn⟩ : ∃ n, n = l1.length := ⟨_, rfl⟩
  rw [← hn] at c3
  have hmx2 : (n : Int) ≤ 1000 := by rw [hn, HLN.out]; exact hmx
  clear hmx
  have HN := Lib.hid hn
  clear hn
  have HON2 := Lib.hid (onG_is HH2.out c)
  rw [HOS.out, ptrG_some] at HON2
  have HWT := Lib.hid (waitG_is HH2.out HX2.out)
  go_wp2_with fail
  go_loop [85] (fun i => ∃ k : Nat, k ≤ n ∧ i = .int .i64 k) (fun i => n - (intOf i).toNat)
  case atStart => exact ⟨0, Nat.zero_le _, rfl⟩
  case round =>
    obtain ⟨k, hk0, rfl⟩ := hrel
    by_cases hk : k < n
    · have jk : (k : Int) < n := by omega
      obtain ⟨T', C, hT', hr⟩ := HH2.out.rows (by have := HN.out; omega)
      injection hT' with hT'; injection hT' with hT'; subst hT'
      obtain ⟨y, hy⟩ : ∃ y, l1[k]? = some y := ⟨l1[k]'(by have := HN.out; omega), List.getElem?_eq_getElem _⟩
      have t13 := (hr.cell (k * 15 + 13)).trans (hr.at hy).c13
      clear hr hy
      go_wp2_with fail
      go_round
      case rel => exact ⟨k + 1, by omega, by go_num⟩
      case measure => simp [intOf]; omega
    · obtain rfl : k = n := by omega
      go_wp2_with (first | (go_at_call 92; refine HON2.out.mono ?_; rintro e3 w3 ⟨rfl, rfl⟩) | (go_at_call 110; refine HWT.out.mono ?_; rintro e3 w3 ⟨rfl, hr3, hu3⟩; have HU3 := Lib.hid (HU2.out.trans hu3); have HF := Lib.hid (fillG_is hr3 (onePin_ok (by have := HM.out; omega)) (by have := HM.out; omega)); clear hr3 hu3) | (go_at_call 111; refine HF.out.mono ?_; rintro e4 w4 ⟨rfl, hr4, hu4⟩; have HR4 := Lib.hid hr4; have HU4 := Lib.hid (HU3.out.trans hu4); clear hr4 hu4))
      go_ret
      exact ⟨rfl, by rw [HSA.out]; exact HR4.out, HU4.out⟩
/-- a tick of a processor -/
theorem tickG_is {m : Nat} (h : RunG w R ad cap m ticks (onePin m) l) {c : Nat} (hc : c < m) (hm : m ≤ 4) (t0 : 0 ≤ ticks) (t1 : ticks < 1000000) (hv : ∀ (i : Nat) (x : Tk), l[i]? = some x → 0 ≤ x.v ∧ x.v < 1000000000000) : Calls Tryz.prog 50 #[.pointer (some ⟨R, 0, none⟩), .int .i64 c] w fun e w' => e = .returned (.int .i64 0) ∧ RunG w' R ad cap m (ticks + 1) (onePin m) (tickL l c m) ∧ Upd (rS R ad) w w' := by
  cases ho : onG l c with
  | none =>
    have := tick_no h hc hm t0 t1 ho
    unfold tickL
    rw [ho]
    exact this
  | some i =>
    obtain ⟨x, hx, -⟩ := onG_some ho
    obtain ⟨T, C, rfl, -⟩ := h.rows (by have := (List.getElem?_eq_some_iff.1 hx).1; omega)
    have := tick_yes h hc hm t0 t1 ho hx (hv i x hx).1 (hv i x hx).2
    unfold tickL
    rw [ho]
    exact this
end
end Go.Proofs.YtnbhohaphmilmaaGreatDoor
