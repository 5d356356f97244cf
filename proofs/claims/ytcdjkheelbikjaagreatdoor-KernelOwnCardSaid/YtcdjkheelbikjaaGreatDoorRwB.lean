/- The walks of fs: the bytes of a file (check.Bytes through fs.reader), a piece of them, FS.Read. fs.Write at the file "f" that is empty: what it leaves. -/
import Derived.Test.YtcdjkheelbikjaaGreatDoorFwB
import Derived.Test.YtcdjkheelbikjaaGreatDoorFwC
import Derived.Test.YtcdjkheelbikjaaGreatDoorKfD
namespace Go.Proofs.YtcdjkheelbikjaaGreatDoor
open Go.RowKit Go.Maps
set_option linter.unusedVariables false
set_option linter.unusedSimpArgs false
theorem method_rd (v : Value) (w : World) : (method 624 359 v "Read").run Tryz.prog w = .ok (432, v) w := by kernel_rfl
/-- a part of bytes -/
theorem At.sub {w : World} {l : List Int} {b o n c : Nat} (h : At (Value.int .u8) 0 w (.slice (some ⟨b, o, none⟩) n c) l) {lo k : Nat} (hk : lo + k ≤ l.length) (hb : b < w.heap.size) : At (Value.int .u8) 0 w (.slice (some ⟨b, o + lo, none⟩) k (c - lo)) ((l.drop lo).take k) := by
  obtain ⟨a, c', e, h1, h2, h3⟩ := h
  injection e with e1 e2 e3
  subst e1 e2 e3
  have hl : ((l.drop lo).take k).length = k := by rw [List.length_take, List.length_drop]; omega
  refine ⟨_, c - lo, by rw [hl], by rw [hl]; omega, by omega, ?_⟩
  rcases h3 with e | ⟨b', o', e, hb, hc⟩
  · left
    subst e
    simp
  · injection e with e
    injection e with e4 e5
    subst e4 e5
    refine .inr ⟨_, _, rfl, hb, fun i hi => ?_⟩
    rw [hl] at hi
    rw [show o + lo + i = o + (lo + i) by omega, hc (lo + i) (by omega)]
    congr 2
    simp [List.getD, List.getElem?_take, hi, List.getElem?_drop]
theorem OB.takeN {w : World} {B n c k : Nat} {p : Option Addr} {l : List Int} (h : OB B w (.slice p n c) l) (hl : l.length = n) (hk : k ≤ n) : OB B w (.slice p k c) (l.take k) := by
  unfold OB at h ⊢
  rw [hl] at h
  rcases Nat.eq_zero_or_pos n with e | e
  · have hk0 : k = 0 := by omega
    subst hk0
    subst e
    have hl0 : l = [] := List.length_eq_zero_iff.1 hl
    subst hl0
    exact h
  · have hlk : (l.take k).length = k := by rw [List.length_take]; omega
    rw [hlk, List.map_take]
    exact owns_take h hk e
/-- the bytes of some sectors -/
def catP (x : FM) (ps : List Int) : List Int := ps.flatMap fun p => fsec x p.toNat
section
variable {w : World} {c : FC} {x : FM}
theorem catP_len (h : FSt w c x) : ∀ ps : List Int, (∀ p ∈ ps, 0 < p ∧ p < 256) → (catP x ps).length = 64 * ps.length
  | [], _ => rfl
  | p :: ps, hp => by
    have ih := catP_len h ps (fun q hq => hp q (List.mem_cons_of_mem _ hq))
    have h1 := hp p (List.mem_cons_self ..)
    have h2 := fsec_len h (p := p.toNat) (by omega)
    unfold catP at ih ⊢
    rw [List.flatMap_cons, List.length_append, h2, ih, List.length_cons]
    omega
theorem catP_next (x : FM) (ps : List Int) {k : Nat} (hk : k < ps.length) : catP x (ps.take (k + 1)) = catP x (ps.take k) ++ fsec x (ps.getD k 0).toNat := by
  unfold catP
  rw [List.take_add_one, List.flatMap_append, List.getElem?_eq_getElem hk]
  simp [hk]
set_option maxRecDepth 100000 in
set_option maxHeartbeats 800000 in
theorem rread_is (h : FSt w c x) {p : Nat} (hp : p < 256) {n : Int} (hn : n = p) : Calls Tryz.prog 432 #[.agg #[.pointer (some ⟨c.F, 0, none⟩)], .int .i64 n] w fun e w' => ∃ v, e = .returned (.tuple #[v, .int .i64 0]) ∧ NewB (fsec x p) w v w' := by
  have hal := Go.Joins.below_alloc1 w (.cells #[.pointer (some ⟨c.F, 0, none⟩)] 359)
  have hr := row_new w 359 #[.pointer (some ⟨c.F, 0, none⟩)]
  have c0 : (w.alloc (.cells #[.pointer (some ⟨c.F, 0, none⟩)] 359)).cell? ⟨w.heap.size, 0, none⟩ = some (.pointer (some ⟨c.F, 0, none⟩)) := by rw [hr.cell]; rfl
  have HS := Lib.hid (sectorF_is (h.keep hal) hp hn)
  have HB := Lib.hid hal
  clear h hal hr hn
  go_enter Tryz.func432, Tryz.ntmps432
  go_upto_region 1 with fail
  generalize w.alloc (.cells #[.pointer (some ⟨c.F, 0, none⟩)] 359) = w1 at *
  go_wp2_with (go_at_call 269; (with_reducible refine HS.out.mono ?_); rintro e2 w2 ⟨v2, rfl, ho2, hb2⟩)
  go_ret2
  exact ⟨_, rfl, ho2.base HB.out.size, HB.out.trans (hb2.mono HB.out.size)⟩
attribute [local go_sem ↓] mkB_eq appB_eq
set_option maxRecDepth 100000 in
set_option maxHeartbeats 1600000 in
theorem bytesF_is (h : FSt w c x) {N : Nd} (ha : At (Value.int .i64) 0 w N.pv N.ps) (hp : ∀ p ∈ N.ps, 0 < p ∧ p < 256) (hl : N.ps.length ≤ 8) {L : Nat} (hsz : N.sz = L) (hL : L ≤ 64 * N.ps.length) :
    Calls Tryz.prog 235 #[.iface 359 (.agg #[.pointer (some ⟨c.F, 0, none⟩)]), .agg (ndA N)] w fun e w' => ∃ v, e = .returned v ∧ OB w.heap.size w' v ((catP x N.ps).take L) ∧ Below w.heap.size w w' := by
  have hmr := method_rd
  have HH := Lib.hid h
  have hal := Go.Joins.below_alloc1 w (.cells (ndA N) 133)
  have hr := row_new w 133 (ndA N)
  have hA := ha.keep hal
  have HP := Lib.hid hp
  have HCL := Lib.hid (catP_len h N.ps hp)
  have HA := Lib.hid hA
  have HSZ := Lib.hid (And.intro hl (And.intro hsz hL))
  obtain ⟨ap, cp, hpv, hlc, mcp, -⟩ := hA
  have HBC := Lib.hid (At.cellI (hpv ▸ HA.out))
  clear HA
  have mcp' : (cp : Int) ≤ 9223372036854775807 := by unfold maxLen at mcp; omega
  obtain ⟨n, hn⟩ : ∃ n, n = N.ps.length := ⟨_, rfl⟩
  rw [← hn] at hpv hlc
  have HN := Lib.hid hn
  have c7 : (w.alloc (.cells (ndA N) 133)).cell? ⟨w.heap.size, 7, none⟩ = some (.slice ap n cp) := by rw [hr.cell, ← hpv]; rfl
  have c4 : ∀ wx, Below (w.alloc (.cells (ndA N) 133)).heap.size (w.alloc (.cells (ndA N) 133)) wx → wx.cell? ⟨w.heap.size, 4, none⟩ = some (.int .i64 L) := fun wx hb => by rw [(hr.keep hb).cell, ← hsz]; rfl
  have HC4 := Lib.hid c4
  have HB0 := Lib.hid hal
  clear h ha hp hl hsz hL hal hr hn c4
  go_enter Tryz.func235, Tryz.ntmps235
  go_upto_region 2 with fail
  generalize w.alloc (.cells (ndA N) 133) = w0 at *
  go_wp2_with fail
  go_loopw [5, 14] (fun ov kv wr => ∃ k v, k ≤ n ∧ v = ov ∧ kv = .int .i64 (k : Nat) ∧ Hid (Below w0.heap.size w0 wr) ∧ Hid (OB w0.heap.size wr v (catP x (N.ps.take k)))) (fun _ kv _ => n - (intOf kv).toNat)
  case atStart => exact ⟨0, _, by omega, rfl, rfl, Lib.hid (Below.refl _ _), Lib.hid (OB.nil _ _)⟩
  case round =>
    obtain ⟨k, v, hk0, rfl, rfl, HB, HO⟩ := hrel
    by_cases hk : k < n
    · have i0 : (0 : Int) ≤ k := by omega
      have i1 : (k : Int) < n := by omega
      have hkn : k < N.ps.length := by have := HN.out; omega
      rcases HBC.out with e | ⟨b, off, rfl, hb, hc⟩
      · rw [e] at hkn; simp at hkn
      have hcj := (HB.out.cell (p := ⟨b, off + k, none⟩) hb).trans (hc k hkn)
      obtain ⟨p, hpk⟩ : ∃ p, p = N.ps.getD k 0 := ⟨_, rfl⟩
      have hpp : 0 < p ∧ p < 256 := by
        rw [hpk]
        refine HP.out _ ?_
        rw [List.getD_eq_getElem?_getD, List.getElem?_eq_getElem hkn]
        exact List.getElem_mem hkn
      rw [← hpk] at hcj
      have HPK := Lib.hid hpk
      obtain ⟨pn, hpn⟩ : ∃ pn : Nat, p = pn := ⟨p.toNat, by omega⟩
      subst hpn
      have p256 : pn < 256 := by omega
      have i2 : ¬ (pn : Int) = 0 := by omega
      have i3 : ((pn : Int) == 0) = false := by simp; omega
      have hHr : FSt wr c x := HH.out.keep (HB0.out.trans (HB.out.mono HB0.out.size))
      have hal1 := Go.Joins.below_alloc1 wr (.cells ((zeros 64).map u8V).toArray 5)
      have mk64 := mkB64 wr
      have HRD := Lib.hid (rread_is (hHr.keep hal1) p256 (n := (pn : Int)) rfl)
      have HFL := Lib.hid (fsec_len hHr p256)
      have HTK : Hid ((catP x (N.ps.take k)).length = 64 * k) := Lib.hid (by rw [catP_len HH.out _ (fun q hq => HP.out q (List.mem_of_mem_take hq)), List.length_take]; omega)
      have HK8 : Hid (k < 8) := Lib.hid (by have := HSZ.out.1; omega)
      have HAL := Lib.hid hal1
      clear hc hpk hpp hHr hal1 hkn hb
      go_upto_region 10 with (go_at_call 432; (with_reducible refine HRD.out.mono ?_); rintro e5 w5 ⟨v5, rfl, ho5, hb5⟩)
      obtain ⟨p5, c5, rfl⟩ := own_form ho5
      obtain ⟨b5, o5, rfl, hc5⟩ := own_cells ho5 rfl (by rw [HFL.out]; decide)
      have hfl := HFL.out
      rw [hfl]
      have HB5 := Lib.hid (HAL.out.trans (hb5.mono HAL.out.size))
      obtain ⟨p6, c6, w6, hap, ho6, hb6⟩ := (HO.out.keep HB5.out).app' (HB.out.trans (HB5.out.mono HB.out.size)).size (c := c5) HFL.out hc5 (by rw [HTK.out]; have := HK8.out; omega)
      have HO6 : Hid (OB w0.heap.size w6 (.slice p6 ((catP x (N.ps.take k)).length + 64) c6) (catP x (N.ps.take (k + 1)))) := Lib.hid (by
        rw [catP_next x N.ps (by have := HN.out; omega), ← HPK.out]
        exact ho6)
      have HB6 := Lib.hid (HB.out.trans ((HB5.out.mono HB.out.size).trans hb6))
      clear ho6 hb6 ho5 hb5 hc5 HRD mk64
      have hap : (appB #[v, .slice (some ⟨b5, o5, none⟩) 64 c5]).run Tryz.prog w5 = .ok (.slice p6 ((catP x (N.ps.take k)).length + 64) c6) w6 := hap
      go_wp2_with fail
      go_roundw
      case rel => exact ⟨k + 1, _, by omega, rfl, by go_num, HB6, HO6⟩
      case measure => simp [intOf]; omega
    · obtain rfl : k = n := by omega
      have HO1 : Hid (OB w0.heap.size wr v (catP x N.ps)) := Lib.hid (by
        have := HO.out
        rw [HN.out, List.take_length] at this
        exact this)
      obtain ⟨pv, cv, rfl⟩ := own_form HO1.out
      have HLN := Lib.hid HCL.out
      have c4 := HC4.out wr HB.out
      have hcv : (cv : Int) ≤ 9223372036854775807 := by have := owns_cap HO1.out; unfold maxLen at this; omega
      obtain ⟨M, hM⟩ : ∃ M, M = (catP x N.ps).length := ⟨_, rfl⟩
      have hML : L ≤ M := by rw [hM, HCL.out]; exact HSZ.out.2.2
      rw [← hM]
      have hMc : M ≤ cv := by
        obtain ⟨a', c', e, h1, h2, h3⟩ := HO1.out.at
        injection e with e1 e2 e3
        rw [hM, e3]; exact h1
      have i5 : (L : Int) ≤ M := by omega
      have i6 : (L : Int) ≤ cv := by omega
      have i7 : min (M : Int) (L : Int) = L := by omega
      have HR : Hid (OB w.heap.size wr (.slice pv L cv) ((catP x N.ps).take L)) := Lib.hid (by
        have h1 := HO1.out.base HB0.out.size
        rw [← hM] at h1
        exact h1.takeN hM.symm hML)
      clear HO1 HO hM hMc
      rcases Nat.lt_or_eq_of_le hML with hlt | rfl
      all_goals
        go_wp2_with fail
        go_ret
        exact ⟨_, rfl, HR.out, HB0.out.trans (HB.out.mono HB0.out.size)⟩
set_option maxRecDepth 100000 in
set_option maxHeartbeats 1600000 in
theorem piece_is {v : Value} {l : List Int} (hv : At (Value.int .u8) 0 w v l) (hl : l.length ≤ 512) {a n : Nat} (ha : a ≤ 1000) (hn : n ≤ 1000) :
    Calls Tryz.prog 234 #[v, .int .i64 a, .int .i64 n] w fun e w' => ∃ v', e = .returned v' ∧ OB w.heap.size w' v' ((l.drop a).take n) ∧ Below w.heap.size w w' := by
  have HV := Lib.hid hv
  obtain ⟨p, cp, rfl, hlc, mcp, -⟩ := hv
  have hcp : (cp : Int) ≤ 9223372036854775807 := by unfold maxLen at mcp; omega
  obtain ⟨L, hL⟩ : ∃ L, L = l.length := ⟨_, rfl⟩
  rw [← hL] at hl hlc ⊢
  have HL := Lib.hid hL
  by_cases hal : L ≤ a
  · have i1 : (L : Int) ≤ a := by omega
    have HR : Hid ((l.drop a).take n = []) := Lib.hid (by rw [List.drop_eq_nil_of_le (by omega), List.take_nil])
    clear hL
    go_enter Tryz.func234, Tryz.ntmps234
    go_wp2_with fail
    go_ret
    exact ⟨_, rfl, by rw [HR.out]; exact OB.nil _ _, Below.refl _ _⟩
  · have i1 : ¬ (L : Int) ≤ a := by omega
    rcases At.cellB HV.out with e | ⟨b, o, rfl, hb, hc⟩
    · rw [e] at hL; simp at hL; omega
    obtain ⟨s, hs⟩ : ∃ s, s = a + n := ⟨_, rfl⟩
    have y1 : IntKind.i64.wrap ((a : Int) + n) = (s : Int) := by rw [IntWalk.i64_in _ (by omega)]; omega
    have HV' : At (Value.int .u8) 0 w (.slice (some ⟨b, o, none⟩) L cp) l := by have := HV.out; rw [← hL] at this; exact this
    by_cases hsL : s < L
    · have i2 : (s : Int) < L := by omega
      have i3 : ¬ (L : Int) ≤ s := by omega
      have i4 : (a : Int) ≤ s := by omega
      have i5 : (s : Int) ≤ L := by omega
      have i6 : (s : Int) ≤ cp := by omega
      have HS := Lib.hid (At.sub HV' (lo := a) (k := s - a) (by omega) hb)
      have HCL := Lib.hid (cloneB_is (by simp; omega) HS.out)
      have HE : Hid (s - a = n) := Lib.hid (by omega)
      clear hc hb hL HV' hs
      go_enter Tryz.func234, Tryz.ntmps234
      go_wp2_with (go_at_call 5; (with_reducible refine HCL.out.mono ?_); rintro e1 w1 ⟨v1, rfl, ho1, hb1⟩)
      go_ret
      exact ⟨_, rfl, by rw [← HE.out]; exact ho1, hb1⟩
    · have i3 : (L : Int) ≤ s := by omega
      have i2 : ¬ (s : Int) < L := by omega
      have i4 : (a : Int) ≤ L := by omega
      have i6 : (L : Int) ≤ cp := by omega
      have HS := Lib.hid (At.sub HV' (lo := a) (k := L - a) (by omega) hb)
      have HCL := Lib.hid (cloneB_is (by simp; omega) HS.out)
      have HE : Hid ((l.drop a).take (L - a) = (l.drop a).take n) := Lib.hid (by rw [List.take_of_length_le (by simp; omega), List.take_of_length_le (by simp; omega)])
      clear hc hb hL HV' hs
      go_enter Tryz.func234, Tryz.ntmps234
      go_wp2_with (go_at_call 5; (with_reducible refine HCL.out.mono ?_); rintro e1 w1 ⟨v1, rfl, ho1, hb1⟩)
      go_ret
      exact ⟨_, rfl, by rw [← HE.out]; exact ho1, hb1⟩
attribute [local go_sem ↓] ld_ino
set_option maxRecDepth 100000 in
set_option maxHeartbeats 1600000 in
theorem readF_is (h : FSt w c x) {i : Nat} (hi : i < 32) {ni : Int} (hni : ni = i + 1) (hk : (x.nd i).k = 1) (hp : ∀ p ∈ (x.nd i).ps, 0 < p ∧ p < 256) (hl : (x.nd i).ps.length ≤ 8) {L : Nat} (hsz : (x.nd i).sz = L) (hL : L ≤ 64 * (x.nd i).ps.length) {a n : Nat} (ha : a ≤ 1000) (hn : n ≤ 512) :
    Calls Tryz.prog 164 #[.pointer (some ⟨c.F, 0, none⟩), .int .i64 ni, .int .i64 a, .int .i64 n] w fun e w' => ∃ v, e = .returned (.tuple #[v, .int .i64 0]) ∧ OB w.heap.size w' v ((((catP x (x.nd i).ps).take L).drop a).take n) ∧ Below w.heap.size w w' := by
  have HFI := Lib.hid (fileF_is h hi hni hk)
  have c4 := h.c4
  obtain ⟨C, hC⟩ := h.nb
  have l1 := hC.ld hi
  have hcm : (x.cap : Int) ≤ 9223372036854775807 := by have := h.cp.2; unfold maxLen at this; omega
  have y1 : IntKind.i64.wrap (ni - 1) = i := by rw [IntWalk.i64_in _ (by omega)]; omega
  have i3 : (i : Int) < 32 := by omega
  have i0 : (0 : Int) ≤ i := by omega
  have a0 : ¬ (a : Int) < 0 := by omega
  have n0 : ¬ (n : Int) < 0 := by omega
  have n1 : ¬ (512 : Int) < n := by omega
  have HBY := Lib.hid (bytesF_is h (h.ps i hi).1.a hp hl hsz hL)
  have HLC : Hid (((catP x (x.nd i).ps).take L).length ≤ 512) := Lib.hid (by rw [List.length_take, catP_len h _ hp]; omega)
  have HN := Lib.hid (And.intro ha hn)
  generalize (catP x (x.nd i).ps).take L = bs at *
  generalize ndA (x.nd i) = A at *
  clear h hC hk hp hl hsz hL hn hni ha
  go_enter Tryz.func164, Tryz.ntmps164
  go_wp2_with (first | (go_at_call 134; (with_reducible refine HFI.out.mono ?_); rintro e0 w0 ⟨rfl, rfl⟩) | (go_at_call 235; (with_reducible refine HBY.out.mono ?_); rintro e2 w2 ⟨v2, rfl, ho2, hb2⟩; have HPC := Lib.hid (piece_is (ho2.at) HLC.out (a := a) (n := n) HN.out.1 (by have := HN.out.2; omega)); have HB2 := Lib.hid hb2; clear ho2 hb2) | (go_at_call 234; (with_reducible refine HPC.out.mono ?_); rintro e3 w3 ⟨v3, rfl, ho3, hb3⟩))
  go_ret2
  exact ⟨_, rfl, ho3.base HB2.out.size, HB2.out.trans (hb3.mono HB2.out.size)⟩
end
end Go.Proofs.YtcdjkheelbikjaaGreatDoor
namespace Go.Proofs.YtcdjkheelbikjaaGreatDoor
open Go.RowKit Go.Maps
set_option linter.unusedVariables false
set_option linter.unusedSimpArgs false
/-- how many sectors some bytes take -/
def blkz (z : List Int) : Nat := (z.length + 63) / 64
/-- the file "f" is there, with some bytes -/
structure FileZ (x : FM) (q : Nat) (m : Int) (z : List Int) : Prop where
  k : (x.nd 0).k = 2
  m0 : (x.nd 0).m = 493
  u : (x.nd 0).u = 0
  g : (x.nd 0).g = 0
  ps : (x.nd 0).ps = [(q : Int)]
  sz : (x.nd 0).sz = 16
  q0 : q ≠ 0
  q1 : q + 8 ≤ 256
  sec : (fsec x q).take 16 = entL
  n1 : ∃ pv, x.nd 1 = ⟨1, m, 0, 0, z.length, 1, 0, pv, pts (q + 1) (blkz z) (blkz z)⟩
  dat : ∀ j, j < blkz z → fsec x (q + 1 + j) = secW z j
  nz : ∀ i, 2 ≤ i → i < 32 → x.nd i = nd0
  G : ∀ k, k < 16 → 37 ≤ x.G k ∧ x.G k < 256
  na : x.na ≤ 20
  l0 : (x.nd 0).l = 1 ∧ (x.nd 0).up = 1
theorem Free.le {G : Nat → Nat} {q K K' : Nat} (h : Free G q K) (hk : K' ≤ K) : Free G q K' := ⟨h.lo, by have := h.hi; omega, fun j hj => h.no j (by omega), h.al⟩
theorem FileF.z {x : FM} {q : Nat} {m : Int} (h : FileF x q m) : FileZ x q m [] := by
  have := h.x.free.hi
  refine ⟨h.k, h.m0, h.u, h.g, h.ps, h.sz, h.q0, by omega, h.sec, h.n1, fun j hj => by simp [blkz] at hj, h.x.nz, fun k hk => ⟨(h.x.G k hk).1, (h.x.G k hk).2.1⟩, by have := h.x.na; omega, h.x.l0⟩
theorem FileF.y {x : FM} {q : Nat} {m : Int} (h : FileF x q m) {K : Nat} (hK : K ≤ 4) : FileY x (q + 1) K := by
  have hq := h.x.free.lo
  have hq2 := h.x.free.hi
  refine ⟨⟨by have := h.k; omega, by have := h.m0; omega, by have := h.u; omega, by have := h.g; omega, by have := h.x.l0; omega, .inl ⟨h.k, by have := h.x.l0; omega, by have := h.x.l0; omega⟩, ⟨by rw [h.ps]; simp, fun p hp => ?_⟩, 16, h.sz, by decide, by rw [h.ps]; rfl⟩, h.x.nz, h.x.G, h.x.free.le (by omega), by have := h.x.na; omega⟩
  rw [h.ps] at hp
  simp at hp
  have := h.q1
  omega
section
variable {w : World} {c : FC} {x : FM}
theorem FileF.wrote {w' : World} {x' : FM} {q : Nat} {m : Int} {z : List Int} (h : FileF x q m) (hz : z.length ≤ 256) (hw : WroteF w w' c x (q + 1) (blkz z) z x') : FileZ x' q m z := by
  have hb : blkz z ≤ 4 := by unfold blkz; omega
  have hq := h.x.free.lo
  have hq2 := h.x.free.hi
  refine ⟨by rw [hw.n0]; exact h.k, by rw [hw.n0]; exact h.m0, by rw [hw.n0]; exact h.u, by rw [hw.n0]; exact h.g, by rw [hw.n0]; exact h.ps, by rw [hw.n0]; exact h.sz, h.q0, by omega, ?_, ?_, hw.sec, fun i h1 h2 => (hw.nz i h1).trans (h.x.nz i h1 h2), fun k hk => ?_, by have := hw.na; have := h.x.na; omega, by rw [hw.n0]; exact h.x.l0⟩
  · rw [hw.old q (by omega) (fun j hj => by omega) (fun i hi e => h.x.Gq i hi e.symm)]
    exact h.sec
  · obtain ⟨pv, e⟩ := hw.n1
    obtain ⟨pv0, e0⟩ := h.n1
    exact ⟨pv, by rw [e, e0]⟩
  · rw [hw.G, gN_off _ hk]
    exact ⟨(h.x.G k hk).1, (h.x.G k hk).2.1⟩
set_option maxRecDepth 100000 in
set_option maxHeartbeats 800000 in
theorem write0_is (h : FSt w c x) (hk : (x.nd 1).k = 1) (a : Option Addr) (cp : Nat) (hc : cp ≤ maxLen) :
    Calls Tryz.prog 69 #[.pointer (some ⟨c.F, 0, none⟩), .int .i64 2, .int .i64 0, .slice a 0 cp] w fun e w' => e = .returned (.tuple #[.int .i64 0, .int .i64 0]) ∧ w = w' := by
  have HFI := Lib.hid (fileF_is h (i := 1) (by decide) (n := 2) rfl hk)
  clear h hk
  go_enter Tryz.func69, Tryz.ntmps69
  go_wp2_with (go_at_call 134; (with_reducible refine HFI.out.mono ?_); rintro e0 w0 ⟨rfl, rfl⟩)
  go_ret2
  exact ⟨rfl, rfl⟩
theorem writeZ_is (h : FSt w c x) {q : Nat} {m : Int} (hf : FileF x q m) (hm : 0 ≤ m ∧ m ≤ 511) {v : Value} {z : List Int} (hz : At (Value.int .u8) 0 w v z) (hz2 : z.length ≤ 256) :
    Calls Tryz.prog 69 #[.pointer (some ⟨c.F, 0, none⟩), .int .i64 2, .int .i64 0, v] w fun e w' => e = .returned (.tuple #[.int .i64 z.length, .int .i64 0]) ∧ ∃ x', FSt w' c x' ∧ FileZ x' q m z ∧ x'.held = x.held ∧ x'.nh = x.nh ∧ (∀ j, x'.bs j → x.bs j ∨ w.heap.size ≤ j) ∧ Upd x.bs w w' := by
  obtain ⟨pv, e1⟩ := hf.n1
  have hk : (x.nd 1).k = 1 := by rw [e1]
  by_cases h0 : z.length = 0
  · obtain ⟨a, cp, rfl, lz, mz, -⟩ := hz
    rw [h0]
    refine (write0_is h hk a cp mz).mono ?_
    rintro e w' ⟨rfl, rfl⟩
    have hz : z = [] := List.length_eq_zero_iff.1 h0
    subst hz
    exact ⟨rfl, x, h, hf.z, rfl, rfl, fun j e => .inl e, Upd.refl _ _⟩
  · have hb : blkz z = (z.length - 1) / 64 + 1 := by unfold blkz; omega
    have hb4 : blkz z ≤ 4 := by unfold blkz; omega
    refine (writeF_is h hk (by rw [e1]) (by rw [e1]) (hf.y hb4) hz (by omega) hz2 hb (fun v8 => ?_)).mono ?_
    · rw [e1]
      refine ⟨by simp, hm, by simp, by simp, by simp, .inr ⟨by simp, rfl⟩, ⟨by rw [pts_len]; omega, pts_in (by have := hf.x.free.hi; omega)⟩, z.length, rfl, by omega, by rw [pts_len]; rfl⟩
    · rintro e w' ⟨rfl, x', hw⟩
      exact ⟨rfl, x', hw.st, hf.wrote hz2 hw, hw.held.1, hw.held.2, hw.bs, hw.up.mono fun i _ e => by
        rcases e with rfl | rfl
        · exact h.bm _ (.inl rfl)
        · exact h.bm _ (.inr (.inl rfl))⟩
theorem catW_len (z : List Int) : ∀ K, ((List.range K).flatMap (secW z)).length = 64 * K
  | 0 => rfl
  | K + 1 => by
    rw [List.range_succ, List.flatMap_append, List.length_append, catW_len z K]
    simp [secW_len]
    omega
theorem catW_get (z : List Int) : ∀ K i, i < 64 * K → ((List.range K).flatMap (secW z))[i]? = some (z.getD i 0)
  | 0, i, h => by omega
  | K + 1, i, h => by
    rw [List.range_succ, List.flatMap_append]
    by_cases hi : i < 64 * K
    · rw [List.getElem?_append_left (by rw [catW_len]; exact hi)]
      exact catW_get z K i hi
    · rw [List.getElem?_append_right (by rw [catW_len]; omega), catW_len]
      have hj : i - 64 * K < 64 := by omega
      have e : 64 * K + (i - 64 * K) = i := by omega
      simp [secW, hj, e]
theorem flatMap_same {f g : Nat → List Int} : ∀ l : List Nat, (∀ j, j ∈ l → f j = g j) → l.flatMap f = l.flatMap g
  | [], _ => rfl
  | a :: l, h => by
    rw [List.flatMap_cons, List.flatMap_cons, h a (List.mem_cons_self ..), flatMap_same l (fun j hj => h j (List.mem_cons_of_mem _ hj))]
/-- what a file's sectors hold, in a row -/
theorem catW_take {z : List Int} {x : FM} {q : Nat} (hd : ∀ j, j < blkz z → fsec x (q + j) = secW z j) : (catP x (pts q (blkz z) (blkz z))).take z.length = z := by
  have e : catP x (pts q (blkz z) (blkz z)) = (List.range (blkz z)).flatMap (secW z) := by
    unfold catP pts
    rw [List.flatMap_map]
    refine flatMap_same _ (fun j hj => ?_)
    have hj : j < blkz z := List.mem_range.1 hj
    show fsec x (Int.toNat (if j < blkz z then ((q + j : Nat) : Int) else 0)) = _
    rw [if_pos hj, Int.toNat_natCast]
    exact hd j hj
  rw [e]
  apply List.ext_getElem?
  intro i
  rw [List.getElem?_take]
  by_cases hi : i < z.length
  · rw [if_pos hi, catW_get z _ i (by unfold blkz; omega)]
    simp [hi]
  · rw [if_neg hi, List.getElem?_eq_none (by omega)]
end
end Go.Proofs.YtcdjkheelbikjaaGreatDoor
