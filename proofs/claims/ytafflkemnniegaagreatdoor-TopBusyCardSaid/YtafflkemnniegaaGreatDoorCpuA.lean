/- The walk of ringtop.rvPut. Walks of ringtop's rvRest, rvLoop, rvLoops. Words of 32 bits in the walks of package cpu: what the operations come to. Out of the texts of an earlier seat (port9.py). -/
import Derived.Test.YtafflkemnniegaaGreatDoorTpB
import Derived.Test.YtafflkemnniegaaGreatDoorCodeDec
import Derived.Test.YtafflkemnniegaaGreatDoorBegin
import Derived.Laws.ResultCell
import Derived.RowKit2
namespace Go.Proofs.YtafflkemnniegaaGreatDoor
open Go.RowKit
set_option linter.unusedVariables false
set_option linter.unusedSimpArgs false
def slB (x : Value) (a b c : Option Value) : Sem Value := Instr.sliceAt 30 x a b c
theorem sl_byt (x : Value) (a b c : Option Value) : Instr.sliceAt 30 x a b c = slB x a b c := rfl
def behindB (bl lo cap : Nat) : Addr := if cap = lo then ⟨bl, 0, none⟩ else ⟨bl, lo, none⟩
theorem slB_mid {bl L cap lo hi : Nat} (h1 : lo ≤ hi) (h2 : hi ≤ L) (hc : L ≤ cap) (w : World) : (slB (.slice (some ⟨bl, 0, none⟩) L cap) (some (.int .i64 lo)) (some (.int .i64 hi)) none).run Tryz.prog w = .ok (.slice (some (behindB bl lo cap)) (hi - lo) (cap - lo)) w := by
  have e1 : (lo : Int) ≤ (hi : Int) := by omega
  have e2 : (hi : Int) ≤ (cap : Int) := by omega
  have e3 : hi ≤ cap := by omega
  simp [slB, Instr.sliceAt, Instr.slice, Instr.sliceBounds, Instr.sliceBound, asIntOf, run_underlying Tryz.underlying30, e1, e2, e3, h1, go_sem, behindB]
  (try (split <;> rfl))
theorem PutOne.base {B0 B1 b : Nat} {m m' : MS} {a r : Int} {d : Nat → Int} (h : PutOne B1 m m' b a r d) (hB : B0 ≤ B1) : PutOne B0 m m' b a r d := by
  obtain ⟨g, v, hg, hv, e⟩ := h
  refine ⟨g, v, by omega, ?_, e⟩
  rcases hv with q | ⟨x, q1, q2⟩
  · exact .inl q
  · exact .inr ⟨x, by omega, q2⟩
theorem ob_cells {B : Nat} {w : World} {v : Value} {L : List Int} (h : OB B w v L) (hL : 0 < L.length) : ∃ bl cap, v = .slice (some ⟨bl, 0, none⟩) L.length cap ∧ L.length ≤ cap ∧ B ≤ bl ∧ ∀ j u, (L.map u8V)[j]? = some u → w.cell? ⟨bl, j, none⟩ = some u := by
  rcases h.2 with ⟨he, hn⟩ | ⟨g2, c2, cur, he, hB, hgg, hlc, hcm, hcs, htk⟩
  · omega
  · refine ⟨g2, c2, he, hlc, hB, fun j u hu => ?_⟩
    have hj : j < L.length := by have := (List.getElem?_eq_some_iff.1 hu).1; simpa using this
    have e : (cur.toList.take (L.length * 1))[j]? = (L.map u8V)[j]? := by rw [← htk]
    rw [List.getElem?_take, if_pos (by omega), Array.getElem?_toList] at e
    rw [cell_of_row w g2 j _ _ _ hgg, e]
    exact hu
/-- what the pages of a program are: its bytes, and an empty one -/
def pgF (L : List Int) (i : Nat) : Int × List Int := if i < 4 then (5, pgB L i) else (3, [])
/-- what rvPut asks of a space: its first pages are shared, or not there -/
structure MayPut (s : KSt) (p : Nat) (s1 : Int) (b : Nat) : Prop where
  p1 : 1 ≤ p
  p16 : p ≤ 16
  lv : (s.t p).st = 1
  sp : s.c (8 + p * 38) = .int .i64 s1
  wf : (Lit.int .i64 s1).wf = true
  ms : s.m.S s1 = some b
  lone : Lone (s.m.F b)
  sh : ∀ k g r, 0 ≤ k → k < 5 → s.m.F b k = some (g, r) → g ∈ s.m.pl ∧ 2 ≤ s.m.u g ∧ s.m.u g < 1000000
  len : (s.m.pl.length : Int) + 5 ≤ s.fr
  nF : s.m.nF b < 9000
section
variable {w : World} {k : KC} {s : KSt} {p b : Nat} {s1 : Int} {v : Value} {l : List CodeLaw.Ins}
attribute [local go_sem ↓] sl_byt
set_option maxRecDepth 100000 in
set_option maxHeartbeats 2000000 in
theorem put_prog (h : KT w k s) (hp : MayPut s p s1 b) (hv : InsL w v l) (he : EncOk l) (hl : 0 < l.length) (hl2 : l.length ≤ 16) :
    Calls Tryz.prog 11 #[.pointer (some ⟨k.K, 0, none⟩), .int .i64 p, v] w fun e w' => e = .returned (.bool true) ∧ ∃ m1 m' tag', Unm s.m m1 b 5 ∧ PutsTo w.heap.size b (pgF (progB l)) m1 5 m' ∧ KG s k w w' { s with m := m', tag := tag' } := by
  have HW := Lib.hid (words_is hv he (by omega))
  obtain ⟨L, hL⟩ : ∃ L, L = progB l := ⟨_, rfl⟩
  have hLl : L.length = l.length * 4 := by rw [hL, progB_len]
  rw [← hL] at HW ⊢
  have HH := Lib.hid h
  have HP := Lib.hid hp
  have HLN : Hid (0 < L.length ∧ L.length ≤ 64) := Lib.hid ⟨by omega, by omega⟩
  clear h hp hv he hl hl2 hL hLl
  go_enter Tryz.func11, Tryz.ntmps11
  go_upto_region 2 with (go_at_call 40; refine HW.out.mono ?_; rintro e1 w1 ⟨u, rfl, ho1, hb1⟩)
  have HK1 := Lib.hid (HH.out.keep hb1)
  have HO1 := Lib.hid ho1
  have HB1 := Lib.hid hb1
  clear HW ho1 hb1
  have HSP := Lib.hid (kspace_is HK1.out HP.out.p1 HP.out.p16 HP.out.lv HP.out.sp)
  have HME := Lib.hid (kmem_is HK1.out)
  have HUN := Lib.hid (unmap_is HK1.out.me (n := 5) HP.out.ms HP.out.wf (by decide) (by decide) HP.out.lone (fun k g r h0 h5 hF => HP.out.sh k g r (by omega) (by omega) hF))
  go_upto_region 7 with (first | (go_at_call 41; refine HSP.out.mono ?_; rintro e2 w2 ⟨rfl, rfl⟩) | (go_at_call 42; refine HME.out.mono ?_; rintro e2 w2 ⟨rfl, rfl⟩) | (go_at_call 43; refine HUN.out.mono ?_; rintro e2 w2 ⟨rfl, m1, hm1, hmm1, hmu1⟩))
  have k2 := (HH.out.start.keep HB1.out).mem hmm1 hmu1 (fun j e => .inl (hm1.mB e))
  obtain ⟨bl, cap, rfl, hcap, hbl, hcell⟩ := ob_cells HO1.out HLN.out.1
  have HU : Hid (∀ (s' : KSt) (wr w' : World) (S : Nat → Prop), KT wr k s' → s'.tag bl = 0 → (∀ j, S j → s'.tag j ≠ 0) → Upd S wr w' → OB w.heap.size wr (.slice (some ⟨bl, 0, none⟩) L.length cap) L → OB w.heap.size w' (.slice (some ⟨bl, 0, none⟩) L.length cap) L) := Lib.hid fun s' wr w' S hk ht hS hu ho => ho.upd hu (fun g e q => by
    have e : some bl = some g := e
    injection e with e
    subst e
    exact hS _ q ht)
  have HBL : Hid (w.heap.size ≤ bl ∧ bl < w1.heap.size) := Lib.hid ⟨hbl, (HO1.out.lt bl rfl).2⟩
  have hz1 : s.tag bl = 0 := HH.out.tz bl hbl
  have ho2 := HU.out _ _ _ _ HK1.out hz1 (fun j e => by rw [HK1.out.tM j e]; decide) hmu1 HO1.out
  have HR0 : Hid (∃ mi tg, PutsTo w.heap.size b (pgF L) m1 0 mi ∧ KG s k w w2 { s with m := mi, tag := tg } ∧ tg bl = 0 ∧ OB w.heap.size w2 (.slice (some ⟨bl, 0, none⟩) L.length cap) L) := Lib.hid ⟨m1, _, rfl, k2, by rw [tg_old HBL.out.2]; exact hz1, ho2⟩
  have HM1 := Lib.hid hm1
  have HCAP := Lib.hid (And.intro hcap hcell)
  have HND : Hid (∀ g, g ∈ m1.pl → g < w.heap.size) := Lib.hid fun g hg => HH.out.me.lt (.inr (.inr (.inr (.inr (by rw [hm1.pl] at hg; exact hg)))))
  have HFR : Hid (∀ j : Int, 0 ≤ j → j < 5 → m1.F b j = none) := Lib.hid fun j h0 h5 => by rw [hm1.F, fup_same, if_pos ⟨h0, h5⟩]
  have L64 : (L.length : Int) ≤ 64 := by have := HLN.out.2; omega
  have L0 : (0 : Int) < L.length := by have := HLN.out.1; omega
  have HPT := Lib.hid (fun (i : Nat) (hi : i < 5) (mi : MS) (tg : Nat → Nat) (wr : World) (hpu : PutsTo w.heap.size b (pgF L) m1 i mi) (hkg : KG s k w wr { s with m := mi, tag := tg }) (r : Int) (hr : 0 ≤ r ∧ r ≤ 7) (l : List Int) (dp : Option Addr) (dc : Nat) (h16 : l.length ≤ 16) hsrc => (have hf := PutsTo.facts HND.out hpu hkg.kt.me.nd; put_is hkg.kt.me (s := s1) (a := i) (r := r) (b := b) (dp := dp) (dc := dc) (l := l) (by rw [hf.S, HM1.out.S]; exact HP.out.ms) HP.out.wf (by omega) (by omega) hr.1 hr.2 (by rw [hf.fr _ (by omega)]; exact HFR.out _ (by omega) (by omega)) (by have := hkg.kt.fn; exact ⟨by omega, by omega⟩) (by have := hkg.kt.fn; exact ⟨by omega, by omega⟩) (by
        have h1 := List.countP_le_length (p := mi.h) (l := mi.pl)
        have h2 := HP.out.len
        have h3 := hf.len
        rw [HM1.out.pl] at h3
        show ((mi.pl.countP mi.h : Nat) : Int) < s.fr
        omega) (by
        have h2 := HP.out.len
        have h3 := hf.len
        have h4 := hkg.kt.fn.2.2.1
        rw [HM1.out.pl] at h3
        show (mi.pl.length : Int) + 1 ≤ s.fr + s.sl
        have h4 : 0 ≤ s.sl := h4
        omega) (by have := HP.out.nF; rw [hf.nF, HM1.out.nF]; omega) h16 hsrc))
  have HKK := Lib.hid (fun (i : Nat) (mi : MS) (tg : Nat → Nat) (wr w3 : World) (m' : MS) (hpu : PutsTo w.heap.size b (pgF L) m1 i mi) (hkg : KG s k w wr { s with m := mi, tag := tg }) (htz : tg bl = 0) (hob : OB w.heap.size wr (.slice (some ⟨bl, 0, none⟩) L.length cap) L) (r : Int) (l : List Int) (hpg : pgF L i = (r, l)) (hp1 : PutOne wr.heap.size mi m' b i r (padF l)) (hm3 : MemG w3 k.M k.so s.fr s.sl m') (hu3 : Upd (mB k.M k.so mi) wr w3) => (show ∃ mi' tg', PutsTo w.heap.size b (pgF L) m1 (i + 1) mi' ∧ KG s k w w3 { s with m := mi', tag := tg' } ∧ tg' bl = 0 ∧ OB w.heap.size w3 (.slice (some ⟨bl, 0, none⟩) L.length cap) L from
        ⟨m', _, ⟨mi, hpu, by
          rw [hpg]
          exact hp1.base hkg.up.size⟩, hkg.mem hm3 hu3 (fun j e => hp1.mB e), by
          rw [tg_old ((hob.lt bl rfl).2)]; exact htz, HU.out _ _ _ _ hkg.kt htz (fun j e => by rw [hkg.kt.tM j e]; decide) hu3 hob⟩))
  clear k2 hm1 hmm1 hmu1 hcap hbl hcell hz1 ho2 HUN HSP HME HK1 HO1 HB1
  obtain ⟨n, hn⟩ : ∃ n, n = L.length := ⟨_, rfl⟩
  rw [← hn] at L64 L0 HR0 HU HCAP HKK ⊢
  have HN := Lib.hid hn
  clear hn
  go_wp2_with fail
  go_loopw [37] (fun kv wr => ∃ i : Nat, i ≤ 4 ∧ kv = .int .i64 i ∧ Hid (∃ mi tg, PutsTo w.heap.size b (pgF L) m1 i mi ∧ KG s k w wr { s with m := mi, tag := tg } ∧ tg bl = 0 ∧ OB w.heap.size wr (.slice (some ⟨bl, 0, none⟩) n cap) L)) (fun kv _ => 4 - (intOf kv).toNat)
  case atStart => exact ⟨0, Nat.zero_le _, rfl, HR0⟩
  case round =>
    obtain ⟨i, hi0, rfl, HR⟩ := hrel
    by_cases hi4 : i < 4
    · have i1 : (i : Int) < 4 := by omega
      obtain ⟨mi, tg, hpu, hkg, htz, hob⟩ := HR.out
      have HPU := Lib.hid hpu
      have HKG := Lib.hid hkg
      have HTZ := Lib.hid htz
      have HOB := Lib.hid hob
      obtain ⟨lo6, hlo6⟩ : ∃ x : Nat, x = i * 16 := ⟨_, rfl⟩
      obtain ⟨hi6, hhi6⟩ : ∃ x : Nat, x = (i + 1) * 16 := ⟨_, rfl⟩
      have e16 : (i : Int) * 16 = (lo6 : Int) := by rw [hlo6]; push_cast; rfl
      have e17 : ((i : Int) + 1) * 16 = (hi6 : Int) := by rw [hhi6]; push_cast; rfl
      have b6 : (lo6 : Int) ≤ 48 := by omega
      have b7 : (hi6 : Int) ≤ 64 := by omega
      obtain ⟨lo, hi, hlh, hlen, hc3⟩ : ∃ lo hi : Nat, (lo ≤ hi ∧ hi ≤ n) ∧ (pgB L i).length = hi - lo ∧ ((hi6 < n ∧ lo6 < hi6 ∧ hi6 = hi ∧ lo6 = lo) ∨ (¬ hi6 < n ∧ lo6 < n ∧ n = hi ∧ lo6 = lo) ∨ (¬ hi6 < n ∧ ¬ lo6 < n ∧ n = hi ∧ n = lo)) := by
        have hpl : (pgB L i).length = min 16 (n - 16 * i) := by
          unfold pgB
          rw [List.length_take, List.length_drop, ← HN.out]
        by_cases q : hi6 < n
        · exact ⟨lo6, hi6, by omega, by omega, .inl ⟨q, by omega, rfl, rfl⟩⟩
        · by_cases q2 : lo6 < n
          · exact ⟨lo6, n, by omega, by omega, .inr (.inl ⟨q, q2, rfl, rfl⟩)⟩
          · exact ⟨n, n, by omega, by omega, .inr (.inr ⟨q, q2, rfl, rfl⟩)⟩
      have hsl := fun w => slB_mid (bl := bl) (L := n) (cap := cap) hlh.1 hlh.2 HCAP.out.1 w
      have HSRC : Hid (0 < ((pgB L i).map u8V).length → ∃ ad, some (behindB bl lo cap) = some ad ∧ ∀ j v, ((pgB L i).map u8V)[j]? = some v → wr.cell? (ad.add j) = some v) := Lib.hid fun hp => by
        rw [List.length_map, hlen] at hp
        obtain ⟨bl', cap', e, hcp, -, hcell⟩ := ob_cells (show OB w.heap.size wr (.slice (some ⟨bl, 0, none⟩) n cap) L from hob) HLN.out.1
        rw [← HN.out] at e
        injection e with e _ e2
        injection e with e
        injection e with e
        subst e
        subst e2
        have hcl : ¬ cap = lo := by have := HCAP.out.1; omega
        refine ⟨⟨bl, lo, none⟩, by unfold behindB; rw [if_neg hcl], fun j v hv => ?_⟩
        have hj : j < hi - lo := by have := (List.getElem?_eq_some_iff.1 hv).1; rw [List.length_map, hlen] at this; exact this
        have hlo16 : lo = 16 * i := by rcases hc3 with ⟨_, _, _, q⟩ | ⟨_, _, _, q⟩ | ⟨_, _, q1, q2⟩ <;> omega
        rw [Addr.add_lit]
        refine hcell (lo + j) v ?_
        rw [← hv, List.getElem?_map, List.getElem?_map]
        congr 1
        unfold pgB
        rw [List.getElem?_take, if_pos (by omega), List.getElem?_drop, hlo16]
      have h16 : (pgB L i).length ≤ 16 := by unfold pgB; rw [List.length_take]; omega
      have HP1 := Lib.hid (HPT.out i (by omega) mi tg wr hpu hkg 5 ⟨by decide, by decide⟩ (pgB L i) _ (cap - lo) h16 HSRC.out)
      rw [hlen] at HP1
      have HLH := Lib.hid hlh
      have HK1 := Lib.hid (fun w3 m' => HKK.out i mi tg wr w3 m' hpu hkg htz hob 5 (pgB L i) (by unfold pgF; rw [if_pos hi4]))
      clear hpu hkg htz hob HSRC hlo6 hhi6 hlen h16
      rcases hc3 with ⟨q1, q2, rfl, rfl⟩ | ⟨q1, q2, rfl, rfl⟩ | ⟨q1, q2, rfl, rfl⟩
      · go_upto_region 12 with (go_at_call 44; refine HP1.out.mono ?_; rintro e3 w3 ⟨rfl, m', hp1, hm3, hu3⟩; have HR3 := Lib.hid (HK1.out w3 m' hp1 hm3 hu3); clear hp1 hm3 hu3)
        go_wp2_with fail
        go_roundw
        case rel => exact ⟨i + 1, by omega, by go_num, HR3⟩
        case measure => simp [intOf]; omega
      · go_upto_region 12 with (go_at_call 44; refine HP1.out.mono ?_; rintro e3 w3 ⟨rfl, m', hp1, hm3, hu3⟩; have HR3 := Lib.hid (HK1.out w3 m' hp1 hm3 hu3); clear hp1 hm3 hu3)
        go_wp2_with fail
        go_roundw
        case rel => exact ⟨i + 1, by omega, by go_num, HR3⟩
        case measure => simp [intOf]; omega
      · rw [Nat.sub_self] at HP1
        go_upto_region 12 with (go_at_call 44; refine HP1.out.mono ?_; rintro e3 w3 ⟨rfl, m', hp1, hm3, hu3⟩; have HR3 := Lib.hid (HK1.out w3 m' hp1 hm3 hu3); clear hp1 hm3 hu3)
        go_wp2_with fail
        go_roundw
        case rel => exact ⟨i + 1, by omega, by go_num, HR3⟩
        case measure => simp [intOf]; omega
    · obtain rfl : i = 4 := by omega
      obtain ⟨mi, tg, hpu, hkg, htz, hob⟩ := HR.out
      have HP1 := Lib.hid (HPT.out 4 (by decide) mi tg wr hpu hkg 3 ⟨by decide, by decide⟩ [] none 0 (by decide) (fun q => absurd q (by decide)))
      have HK1 := Lib.hid (fun w3 m' => HKK.out 4 mi tg wr w3 m' hpu hkg htz hob 3 [] rfl)
      clear hpu hkg htz hob
      rw [show ((4 : Nat) : Int) = 4 from rfl] at HP1 HK1
      go_wp2_with (go_at_call 44; refine HP1.out.mono ?_; rintro e3 w3 ⟨rfl, m', hp1, hm3, hu3⟩; have HR3 := Lib.hid (HK1.out w3 m' hp1 hm3 hu3); clear hp1 hm3 hu3)
      go_ret
      obtain ⟨mi', tg', hpu', hkg', -, -⟩ := HR3.out
      exact ⟨rfl, m1, mi', tg', HM1.out, hpu', hkg'⟩
end
end Go.Proofs.YtafflkemnniegaaGreatDoor
namespace Go.Proofs.YtafflkemnniegaaGreatDoor
open Go.RowKit
set_option linter.unusedVariables false
set_option linter.unusedSimpArgs false
/-- the program that goes round -/
def loopL : List CodeLaw.Ins := [⟨14, 1, 1, 1⟩, ⟨19, 0, 0, -4⟩]
theorem u64_mod (k n : Int) (h0 : 0 < n) (h9 : n < 1000) : ∃ r : Nat, (r : Int) < n ∧ wrap64 ((IntKind.u64.wrap k).tmod n) = r := by
  have hk : 0 ≤ IntKind.u64.wrap k := by
    have e : IntKind.u64.wrap k = k % 18446744073709551616 := by simp [IntKind.wrap, IntKind.signed, IntKind.bits]
    rw [e]
    exact Int.emod_nonneg _ (by decide)
  rw [Int.tmod_eq_emod_of_nonneg hk]
  have h1 := Int.emod_nonneg (IntKind.u64.wrap k) (show n ≠ 0 by omega)
  have h2 := Int.emod_lt_of_pos (IntKind.u64.wrap k) h0
  rw [IntWalk.wrap64_in _ (by omega)]
  exact ⟨((IntKind.u64.wrap k) % n).toNat, by omega, by omega⟩
theorem rest_is (w : World) (k : Int) {n : Int} (h0 : 0 < n) (h9 : n < 1000) : Calls Tryz.prog 4 #[.int .i64 k, .int .i64 n] w fun e w' => ∃ r : Nat, (r : Int) < n ∧ e = .returned (.int .i64 r) ∧ w' = w := by
  obtain ⟨r, hr, er⟩ := u64_mod k n h0 h9
  have hw : IntKind.u64.wrap n = n := IntWalk.u64_in n (by omega)
  have hn : ¬ n = 0 := by omega
  have HR := Lib.hid hr
  go_enter Tryz.func4, Tryz.ntmps4
  go_wp2_with fail
  go_ret
  exact ⟨r, HR.out, by rw [er]; rfl, rfl⟩
theorem loop_is (w : World) : Calls Tryz.prog 12 #[] w fun e w' => ∃ b, w.heap.size ≤ b ∧ b < w'.heap.size ∧ e = .returned (.slice (some ⟨b, 0, none⟩) 2 2) ∧ InsL w' (.slice (some ⟨b, 0, none⟩) 2 2) loopL ∧ Below w.heap.size w w' := by
  have hal := Go.Joins.below_alloc1 w (.cells #[.int .i64 14, .int .i64 1, .int .i64 1, .int .i64 1, .int .i64 19, .int .i64 0, .int .i64 0, .int .i64 (-4)] 119)
  have hr := row_new w 119 #[.int .i64 14, .int .i64 1, .int .i64 1, .int .i64 1, .int .i64 19, .int .i64 0, .int .i64 0, .int .i64 (-4)]
  have HA := Lib.hid hal
  have HR := Lib.hid hr
  clear hal hr
  go_enter Tryz.func12, Tryz.ntmps12
  go_wp2_with fail
  go_ret
  refine ⟨w.heap.size, Nat.le_refl _, by simp, rfl, ⟨w.heap.size, 2, rfl, fun i x hx => ?_⟩, HA.out⟩
  match i, hx with
  | 0, hx => injection hx with hx; subst hx; exact ⟨HR.out.cell 0, HR.out.cell 1, HR.out.cell 2, HR.out.cell 3⟩
  | 1, hx => injection hx with hx; subst hx; exact ⟨HR.out.cell 4, HR.out.cell 5, HR.out.cell 6, HR.out.cell 7⟩
/-- so many programs that go round -/
structure LpL (B : Nat) (w : World) (v : Value) (n : Nat) (xs : List Value) : Prop where
  own : w.ownsRow B 54 1 v n xs
  len : xs.length = n
  one : ∀ x ∈ xs, ∃ b, x = .slice (some ⟨b, 0, none⟩) 2 2 ∧ b < w.heap.size ∧ InsL w x loopL ∧ v.ownBlock ≠ some b
theorem InsL.upd {S : Nat → Prop} {w w' : World} {b c : Nat} {l : List CodeLaw.Ins} {L : Nat} (h : InsL w (.slice (some ⟨b, 0, none⟩) L c) l) (hu : Upd S w w') (hn : ¬ S b) : InsL w' (.slice (some ⟨b, 0, none⟩) L c) l := by
  obtain ⟨b', cap, e, hc⟩ := h
  injection e with e e1 e2
  injection e with e
  injection e with e
  subst e
  refine ⟨b, cap, by rw [e1, e2], fun i x hx => ?_⟩
  obtain ⟨c0, c1, c2, c3⟩ := hc i x hx
  have hl : b < w.heap.size := World.block_lt_of_cell? w _ c0
  exact ⟨(hu.cell hl hn).trans c0, (hu.cell hl hn).trans c1, (hu.cell hl hn).trans c2, (hu.cell hl hn).trans c3⟩
theorem LpL.upd {B n : Nat} {S : Nat → Prop} {w w' : World} {v : Value} {xs : List Value} (h : LpL B w v n xs) (hu : Upd S w w') (hS : ∀ b, b < w.heap.size → ¬ S b) : LpL B w' v n xs :=
  ⟨hu.owns h.own (fun g hg => hS g (h.own.lt g hg).2), h.len, fun x hx => by
    obtain ⟨b, rfl, hb, hi, hv⟩ := h.one x hx
    exact ⟨b, rfl, Nat.lt_of_lt_of_le hb hu.size, hi.upd hu (hS b hb), hv⟩⟩
theorem LpL.keep {B n : Nat} {w w' : World} {v : Value} {xs : List Value} (h : LpL B w v n xs) (hb : Below w.heap.size w w') : LpL B w' v n xs := h.upd (S := fun _ => False) (Upd.below hb) (fun _ _ e => e)
end Go.Proofs.YtafflkemnniegaaGreatDoor
namespace Go.Proofs.YtafflkemnniegaaGreatDoor.CpuLaw
open Go.RowKit
set_option linter.unusedVariables false
set_option linter.unusedSimpArgs false
def sub33 (x y : Value) : Sem Value := binOp .sub 40 x y
def add33 (x y : Value) : Sem Value := binOp .add 40 x y
theorem sub33_eq (x y : Value) : binOp .sub 40 x y = sub33 x y := rfl
theorem add33_eq (x y : Value) : binOp .add 40 x y = add33 x y := rfl
theorem sub_u32 {a b k : Nat} (h : ((a : Int) - (b : Int)) % 4294967296 = (k : Int)) (w : World) : (sub33 (.int .u32 a) (.int .u32 b)).run Tryz.prog w = .ok (.int .u32 k) w := by
  have e : IntKind.u32.wrap ((a : Int) - b) = k := by rw [IntKind.wrap_u32]; exact h
  unfold sub33
  simp [go_sem, e]
theorem add_u32 {a b k : Nat} (h : ((a : Int) + (b : Int)) % 4294967296 = (k : Int)) (w : World) : (add33 (.int .u32 a) (.int .u32 b)).run Tryz.prog w = .ok (.int .u32 k) w := by
  have e : IntKind.u32.wrap ((a : Int) + b) = k := by rw [IntKind.wrap_u32]; exact h
  unfold add33
  simp [go_sem, e]
def wide (x : Value) : Sem Value := convert 40 46 x
def wideN (x : Value) : Sem Value := convert 3 46 x
theorem wide_eq (x : Value) : convert 40 46 x = wide x := rfl
theorem wideN_eq (x : Value) : convert 3 46 x = wideN x := rfl
theorem wide_u64 {k : Nat} (h : k < 4294967296) (w : World) : (wide (.int .u32 k)).run Tryz.prog w = .ok (.int .u64 k) w := by
  have e : IntKind.u64.wrap (k : Int) = k := by rw [IntKind.wrap_u64]; omega
  unfold wide
  simp [go_sem, e]
theorem wideN_u64 {k : Nat} (h : k < 9223372036854775808) (w : World) : (wideN (.int .i64 k)).run Tryz.prog w = .ok (.int .u64 k) w := by
  have e : IntKind.u64.wrap (k : Int) = k := by rw [IntKind.wrap_u64]; omega
  unfold wideN
  simp [go_sem, e]
def or33 (x y : Value) : Sem Value := binOp .or 40 x y
def shl33 (x y : Value) : Sem Value := binOp .shl 40 x y
def wideB (x : Value) : Sem Value := convert 5 40 x
theorem or33_eq (x y : Value) : binOp .or 40 x y = or33 x y := rfl
theorem shl33_eq (x y : Value) : binOp .shl 40 x y = shl33 x y := rfl
theorem wideB_eq (x : Value) : convert 5 40 x = wideB x := rfl
abbrev trap (k : Int) (a : Nat) : Value := .agg #[.int .i64 k, .int .u32 a]
theorem step_u32 (i j : Nat) (h : i + 1 = j) (hj : j < 4294967296) (w : World) : (add33 (.int .u32 i) (.int .u32 1)).run Tryz.prog w = .ok (.int .u32 j) w := add_u32 (a := i) (b := 1) (k := j) (by omega) w
def shr33 (x y : Value) : Sem Value := binOp .shr 40 x y
def narrow (x : Value) : Sem Value := convert 40 5 x
theorem shr33_eq (x y : Value) : binOp .shr 40 x y = shr33 x y := rfl
theorem narrow_eq (x : Value) : convert 40 5 x = narrow x := rfl
/-- the trap's cells, new and not frozen -/
structure Slot (n : Nat) (k : Int) (a : Nat) (w : World) : Prop where
  lt : n < w.heap.size
  c0 : w.cell? ⟨n, 0, none⟩ = some (.int .i64 k)
  c1 : w.cell? ⟨n, 1, none⟩ = some (.int .u32 a)
  fz : ∀ i, w.frozen? ⟨n, i, none⟩ = false
/-- all blocks but c that were there are as they were -/
structure Off (c : Nat) (w w' : World) : Prop where
  size : w.heap.size ≤ w'.heap.size
  keep : ∀ k, k < w.heap.size → k ≠ c → w'.heap[k]? = w.heap[k]?
  low : ∀ B, B ≤ c → B ≤ w.heap.size → Below B w w'
theorem Off.refl (c : Nat) (w : World) : Off c w w := ⟨Nat.le_refl _, fun _ _ _ => rfl, fun B _ _ => Below.refl B w⟩
theorem Off.trans {c : Nat} {w w1 w2 : World} (h : Off c w w1) (k : Off c w1 w2) : Off c w w2 :=
  ⟨Nat.le_trans h.size k.size, fun i hi hc => (k.keep i (Nat.lt_of_lt_of_le hi h.size) hc).trans (h.keep i hi hc), fun B hB hs => (h.low B hB hs).trans (k.low B hB (Nat.le_trans hs h.size))⟩
theorem Off.of {c : Nat} {w w' : World} (h : Below w.heap.size w w') : Off c w w' := ⟨h.size, fun k hk _ => h.block k hk, fun B _ hs => h.mono hs⟩
theorem Off.ofB {c B : Nat} {w w' : World} (hB : w.heap.size ≤ B) (h : Below B w w') : Off c w w' := .of (h.mono hB)
theorem Off.set {c i : Nat} (w : World) (v : Value) : Off c w (w.setCell ⟨c, i, none⟩ v) :=
  ⟨by simp [World.setCell], fun k _ hc => Below.heap_setCell _ _ _ _ hc, fun B hB _ => (Below.refl B w).setCell hB v⟩
theorem Off.cell {c : Nat} {w w' : World} (h : Off c w w') {p : Addr} (hp : p.block < w.heap.size) (hc : p.block ≠ c) : w'.cell? p = w.cell? p := World.cell?_of_block (w := w) (h.keep _ hp hc)
theorem Off.frozen {c : Nat} {w w' : World} (h : Off c w w') {p : Addr} (hp : p.block < w.heap.size) (hc : p.block ≠ c) : w'.frozen? p = w.frozen? p := World.frozen?_of_block (w := w) (h.keep _ hp hc)
def up (a k : Nat) : Nat := (a + k) % 4294967296
theorem up_u32 (a k : Nat) (w : World) : (add33 (.int .u32 a) (.int .u32 k)).run Tryz.prog w = .ok (.int .u32 (up a k)) w := add_u32 (by unfold up; omega) w
theorem up_zero {a : Nat} (h : a < 4294967296) : up a 0 = a := by unfold up; omega
theorem up_lt (a k : Nat) : up a k < 4294967296 := Nat.mod_lt _ (by decide)
theorem wideB_u32 {x : Nat} (h : x < 4294967296) (w : World) : (wideB (.int .u8 x)).run Tryz.prog w = .ok (.int .u32 x) w := by
  have e : IntKind.u32.wrap (x : Int) = x := by rw [IntKind.wrap_u32]; omega
  unfold wideB
  simp [go_sem, e]
theorem or_u32 {x y z : Nat} (hx : x < 4294967296) (hy : y < 4294967296) (h : x ||| y = z) (w : World) : (or33 (.int .u32 x) (.int .u32 y)).run Tryz.prog w = .ok (.int .u32 z) w := by
  have e := CodeLaw.u32_or x y hx hy
  unfold or33
  simp [go_sem, e, h]
theorem shl_u32 {x y k z : Nat} (hy : y < 32) (h : ((x : Int) * 2 ^ y) % 4294967296 = z) (w : World) : (shl33 (.int .u32 x) (.int .u32 y)).run Tryz.prog w = .ok (.int .u32 z) w := by
  unfold shl33
  simp [go_sem, IntKind.wrap, IntKind.bits, IntKind.signed]
  exact h
theorem shr_u32 {x y k z : Nat} (hy : y < 32) (h : x / 2 ^ y = z) (w : World) : (shr33 (.int .u32 x) (.int .u32 y)).run Tryz.prog w = .ok (.int .u32 z) w := by
  unfold shr33
  simp [go_sem]
  rw [← h]
  norm_cast
theorem narrow_u8 {x z : Nat} (h : x % 256 = z) (w : World) : (narrow (.int .u32 x)).run Tryz.prog w = .ok (.int .u8 z) w := by
  have e : IntKind.u8.wrap (x : Int) = z := by simp [IntKind.wrap, IntKind.bits, IntKind.signed]; omega
  unfold narrow
  simp [go_sem, e]
theorem v_ok {x : Nat} (hx : x < 256) (w : World) : (wideB (.int .u8 x)).run Tryz.prog w = .ok (.int .u32 x) w := wideB_u32 (by omega) w
theorem s_ok {x : Nat} (y z k : Nat) (hx : x < 256) (hy : y ≤ 24) (hk : 2 ^ y = k) (hz : x * k = z) (w : World) : (shl33 (.int .u32 x) (.int .u32 y)).run Tryz.prog w = .ok (.int .u32 z) w := by
  refine shl_u32 (k := 0) (by omega) ?_ w
  have : x * 2 ^ y < 256 * 2 ^ 24 := Nat.mul_lt_mul_of_lt_of_le hx (Nat.pow_le_pow_right (by decide) hy) (by decide)
  have e : ((x : Int) * 2 ^ y) = ((x * 2 ^ y : Nat) : Int) := by norm_cast
  rw [e]
  rw [hk] at *
  rw [hz] at *
  omega
theorem t0_ok {x0 : Nat} (h0 : x0 < 256) (w : World) : (or33 (.int .u32 0) (.int .u32 x0)).run Tryz.prog w = .ok (.int .u32 x0) w := or_u32 (x := 0) (y := x0) (z := x0) (by omega) (by omega) (by simp) w
theorem t1_ok {x0 x1 : Nat} (h0 : x0 < 256) (h1 : x1 < 256) (w : World) : (or33 (.int .u32 x0) (.int .u32 ((x1 * 256 : Nat) : Int))).run Tryz.prog w = .ok (.int .u32 ((x0 + x1 * 256 : Nat) : Int)) w :=
  or_u32 (x := x0) (y := x1 * 256) (z := x0 + x1 * 256) (by omega) (by omega) (by rw [Nat.or_comm, CodeLaw.or_add _ _ 8 (by omega) ⟨x1, by omega⟩]; omega) w
theorem t2_ok {x0 x1 x2 : Nat} (h0 : x0 < 256) (h1 : x1 < 256) (h2 : x2 < 256) (w : World) : (or33 (.int .u32 ((x0 + x1 * 256 : Nat) : Int)) (.int .u32 ((x2 * 65536 : Nat) : Int))).run Tryz.prog w = .ok (.int .u32 ((x0 + x1 * 256 + x2 * 65536 : Nat) : Int)) w :=
  or_u32 (x := x0 + x1 * 256) (y := x2 * 65536) (z := x0 + x1 * 256 + x2 * 65536) (by omega) (by omega) (by rw [Nat.or_comm, CodeLaw.or_add _ _ 16 (by omega) ⟨x2, by omega⟩]; omega) w
theorem t3_ok {x0 x1 x2 x3 : Nat} (h0 : x0 < 256) (h1 : x1 < 256) (h2 : x2 < 256) (h3 : x3 < 256) (w : World) : (or33 (.int .u32 ((x0 + x1 * 256 + x2 * 65536 : Nat) : Int)) (.int .u32 ((x3 * 16777216 : Nat) : Int))).run Tryz.prog w = .ok (.int .u32 ((x0 + x1 * 256 + x2 * 65536 + x3 * 16777216 : Nat) : Int)) w :=
  or_u32 (x := x0 + x1 * 256 + x2 * 65536) (y := x3 * 16777216) (z := x0 + x1 * 256 + x2 * 65536 + x3 * 16777216) (by omega) (by omega) (by rw [Nat.or_comm, CodeLaw.or_add _ _ 24 (by omega) ⟨x3, by omega⟩]; omega) w
theorem Slot.keep {n : Nat} {k : Int} {a c : Nat} {w w' : World} (h : Slot n k a w) (ho : Off c w w') (hc : n ≠ c) : Slot n k a w' :=
  ⟨Nat.lt_of_lt_of_le h.lt ho.size, (ho.cell (p := ⟨n, 0, none⟩) h.lt hc).trans h.c0, (ho.cell (p := ⟨n, 1, none⟩) h.lt hc).trans h.c1, fun i => (ho.frozen (p := ⟨n, i, none⟩) h.lt hc).trans (h.fz i)⟩
theorem slot_new (w : World) : Slot w.heap.size 0 0 (w.alloc (.cells #[.int .i64 0, .int .u32 0] 42)) := by
  refine ⟨by simp, ?_, ?_, fun i => ?_⟩ <;> simp [go_sem]
theorem slot_of (w : World) (t : Int) (a : Nat) : Slot w.heap.size t a (w.alloc (.cells #[.int .i64 t, .int .u32 a] 42)) := by
  refine ⟨by simp, ?_, ?_, fun i => ?_⟩ <;> simp [go_sem]
def mul33 (x y : Value) : Sem Value := binOp .mul 40 x y
theorem mul33_eq (x y : Value) : binOp .mul 40 x y = mul33 x y := rfl
def quo33 (x y : Value) : Sem Value := binOp .quo 40 x y
theorem quo33_eq (x y : Value) : binOp .quo 40 x y = quo33 x y := rfl
def and33 (x y : Value) : Sem Value := binOp .and 40 x y
theorem and33_eq (x y : Value) : binOp .and 40 x y = and33 x y := rfl
def xor33 (x y : Value) : Sem Value := binOp .xor 40 x y
theorem xor33_eq (x y : Value) : binOp .xor 40 x y = xor33 x y := rfl
theorem bit_lt {x y : Nat} (op : Nat → Nat → Nat) (h : op x y < 2 ^ 32) : op x y < 4294967296 := h
theorem mul_u32 {a b z : Nat} (h : a * b % 4294967296 = z) (w : World) : (mul33 (.int .u32 a) (.int .u32 b)).run Tryz.prog w = .ok (.int .u32 z) w := by
  have e : IntKind.u32.wrap ((a : Int) * b) = z := by
    rw [IntKind.wrap_u32, ← Int.natCast_mul]
    generalize a * b = n at *
    omega
  unfold mul33
  simp [go_sem, e]
theorem quo_u32 {a b z : Nat} (hb : b ≠ 0) (ha : a < 4294967296) (h : a / b = z) (w : World) : (quo33 (.int .u32 a) (.int .u32 b)).run Tryz.prog w = .ok (.int .u32 z) w := by
  have e0 : ((a : Int).tdiv b) = z := by rw [← h]; rfl
  have hz : z < 4294967296 := by have := Nat.div_le_self a b; omega
  have e : IntKind.u32.wrap (z : Int) = z := by rw [IntKind.wrap_u32]; omega
  unfold quo33
  simp [go_sem, hb, e0, e]
theorem and_u32 {x y z : Nat} (hx : x < 4294967296) (hy : y < 4294967296) (h : x &&& y = z) (w : World) : (and33 (.int .u32 x) (.int .u32 y)).run Tryz.prog w = .ok (.int .u32 z) w := by
  have e := CodeLaw.u32_and x y hx hy
  unfold and33
  simp [go_sem, e, h]
theorem u32_xor (a b : Nat) (ha : a < 2 ^ 32) (hb : b < 2 ^ 32) : bits .xor .u32 (a : Int) (b : Int) = ((a ^^^ b : Nat) : Int) := by
  show IntKind.u32.wrap ((BitVec.ofInt 32 (a : Int) ^^^ BitVec.ofInt 32 (b : Int)).toNat : Int) = _
  rw [BitVec.toNat_xor, BitVec.ofInt_natCast, BitVec.ofInt_natCast, BitVec.toNat_ofNat, BitVec.toNat_ofNat, Nat.mod_eq_of_lt ha, Nat.mod_eq_of_lt hb]
  exact CodeLaw.wraps_u32 _ (Int.natCast_nonneg _) (by have := Nat.xor_lt_two_pow ha hb; exact_mod_cast this)
theorem xor_u32 {x y z : Nat} (hx : x < 4294967296) (hy : y < 4294967296) (h : x ^^^ y = z) (w : World) : (xor33 (.int .u32 x) (.int .u32 y)).run Tryz.prog w = .ok (.int .u32 z) w := by
  have e := u32_xor x y hx hy
  unfold xor33
  simp [go_sem, e, h]
attribute [local go_sem ↓] sub33_eq add33_eq or33_eq shl33_eq shr33_eq mul33_eq quo33_eq and33_eq xor33_eq
end Go.Proofs.YtafflkemnniegaaGreatDoor.CpuLaw
