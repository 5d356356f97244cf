/- The walks of fs: the bytes of a file (check.Bytes through fs.reader), a piece of them, FS.Read. fs.Write at the file "f" that is empty: what it leaves. The walk of fs.Unlink at the file "f" that is held. The walks of path.Split at "/f" and at "/". The ways to "/f", where the file is there: path.start, path.Walk, kernel.walk, kernel.opened, kernel.open. The ways to "/": path.start, path.Walk, kernel.walk. The walks of fs.List and kernel.list at the root with the file "f". The kernel's named at List; the way from do to named. -/
import Derived.Test.YtlfemcbfclallaaGreatDoorFwB
import Derived.Test.YtlfemcbfclallaaGreatDoorFwC
import Derived.Test.YtlfemcbfclallaaGreatDoorKfC
import Derived.Test.YtlfemcbfclallaaGreatDoorHdD
import Derived.Test.YtlfemcbfclallaaGreatDoorPathA
import Derived.Test.YtlfemcbfclallaaGreatDoorKfG
namespace Go.Proofs.YtlfemcbfclallaaGreatDoor
open Go.RowKit Go.Maps
set_option linter.unusedVariables false
set_option linter.unusedSimpArgs false
theorem method_rd (v : Value) (w : World) : (method 620 352 v "Read").run Tryz.prog w = .ok (427, v) w := by kernel_rfl
theorem At.sub {w : World} {l : List Int} {b o n c : Nat} (h : At (Value.int .u8) 0 w (.slice (some ⟨b, o, none⟩) n c) l) {lo k : Nat} (hk : lo + k ≤ l.length) (hb : b < w.heap.size) : At (Value.int .u8) 0 w (.slice (some ⟨b, o + lo, none⟩) k (c - lo)) ((l.drop lo).take k) := by
  obtain ⟨a, c', e, h1, h2, h3⟩ := h
  injection e with e1 e2 e3
  subst e1 e2 e3
  have hl : ((l.drop lo).take k).length = k := by rw [List.length_take, List.length_drop]; omega
  refine ⟨_, c - lo, by rw [hl], by rw [hl]; omega, by omega, ?_⟩
  rcases h3 with e | ⟨b', o', e, hb, hc⟩
  · left
    subst e
    simp
  · injection e with e
    injection e with e4 e5
    subst e4 e5
    refine .inr ⟨_, _, rfl, hb, fun i hi => ?_⟩
    rw [hl] at hi
    rw [show o + lo + i = o + (lo + i) by omega, hc (lo + i) (by omega)]
    congr 2
    simp [List.getD, List.getElem?_take, hi, List.getElem?_drop]
theorem OB.takeN {w : World} {B n c k : Nat} {p : Option Addr} {l : List Int} (h : OB B w (.slice p n c) l) (hl : l.length = n) (hk : k ≤ n) : OB B w (.slice p k c) (l.take k) := by
  unfold OB at h ⊢
  rw [hl] at h
  rcases Nat.eq_zero_or_pos n with e | e
  · have hk0 : k = 0 := by omega
    subst hk0
    subst e
    have hl0 : l = [] := List.length_eq_zero_iff.1 hl
    subst hl0
    exact h
  · have hlk : (l.take k).length = k := by rw [List.length_take]; omega
    rw [hlk, List.map_take]
    exact owns_take h hk e
def catP (x : FM) (ps : List Int) : List Int := ps.flatMap fun p => fsec x p.toNat
section
variable {w : World} {c : FC} {x : FM}
theorem catP_len (h : FSt w c x) : ∀ ps : List Int, (∀ p ∈ ps, 0 < p ∧ p < 256) → (catP x ps).length = 64 * ps.length
  | [], _ => rfl
  | p :: ps, hp => by
    have ih := catP_len h ps (fun q hq => hp q (List.mem_cons_of_mem _ hq))
    have h1 := hp p (List.mem_cons_self ..)
    have h2 := fsec_len h (p := p.toNat) (by omega)
    unfold catP at ih ⊢
    rw [List.flatMap_cons, List.length_append, h2, ih, List.length_cons]
    omega
theorem catP_next (x : FM) (ps : List Int) {k : Nat} (hk : k < ps.length) : catP x (ps.take (k + 1)) = catP x (ps.take k) ++ fsec x (ps.getD k 0).toNat := by
  unfold catP
  rw [List.take_add_one, List.flatMap_append, List.getElem?_eq_getElem hk]
  simp [hk]
set_option maxRecDepth 100000 in
set_option maxHeartbeats 800000 in
theorem rread_is (h : FSt w c x) {p : Nat} (hp : p < 256) {n : Int} (hn : n = p) : Calls Tryz.prog 427 #[.agg #[.pointer (some ⟨c.F, 0, none⟩)], .int .i64 n] w fun e w' => ∃ v, e = .returned (.tuple #[v, .int .i64 0]) ∧ NewB (fsec x p) w v w' := by
  have hal := Go.Joins.below_alloc1 w (.cells #[.pointer (some ⟨c.F, 0, none⟩)] 352)
  have hr := row_new w 352 #[.pointer (some ⟨c.F, 0, none⟩)]
  have c0 : (w.alloc (.cells #[.pointer (some ⟨c.F, 0, none⟩)] 352)).cell? ⟨w.heap.size, 0, none⟩ = some (.pointer (some ⟨c.F, 0, none⟩)) := by rw [hr.cell]; rfl
  have HS := Lib.hid (sectorF_is (h.keep hal) hp hn)
  have HB := Lib.hid hal
  clear h hal hr hn
  go_enter Tryz.func427, Tryz.ntmps427
  go_upto_region 1 with fail
  generalize w.alloc (.cells #[.pointer (some ⟨c.F, 0, none⟩)] 352) = w1 at *
  go_wp2_with (go_at_call 263; (with_reducible refine HS.out.mono ?_); rintro e2 w2 ⟨v2, rfl, ho2, hb2⟩)
  go_ret2
  exact ⟨_, rfl, ho2.base HB.out.size, HB.out.trans (hb2.mono HB.out.size)⟩
attribute [local go_sem ↓] mkB_eq appB_eq
set_option maxRecDepth 100000 in
set_option maxHeartbeats 1600000 in
theorem bytesF_is (h : FSt w c x) {N : Nd} (ha : At (Value.int .i64) 0 w N.pv N.ps) (hp : ∀ p ∈ N.ps, 0 < p ∧ p < 256) (hl : N.ps.length ≤ 8) {L : Nat} (hsz : N.sz = L) (hL : L ≤ 64 * N.ps.length) :
    Calls Tryz.prog 229 #[.iface 352 (.agg #[.pointer (some ⟨c.F, 0, none⟩)]), .agg (ndA N)] w fun e w' => ∃ v, e = .returned v ∧ OB w.heap.size w' v ((catP x N.ps).take L) ∧ Below w.heap.size w w' := by
  have hmr := method_rd
  have HH := Lib.hid h
  have hal := Go.Joins.below_alloc1 w (.cells (ndA N) 120)
  have hr := row_new w 120 (ndA N)
  have hA := ha.keep hal
  have HP := Lib.hid hp
  have HCL := Lib.hid (catP_len h N.ps hp)
  have HA := Lib.hid hA
  have HSZ := Lib.hid (And.intro hl (And.intro hsz hL))
  obtain ⟨ap, cp, hpv, hlc, mcp, -⟩ := hA
  have HBC := Lib.hid (At.cellI (hpv ▸ HA.out))
  clear HA
  have mcp' : (cp : Int) ≤ 9223372036854775807 := by unfold maxLen at mcp; omega
  obtain ⟨n, hn⟩ : ∃ n, n = N.ps.length := ⟨_, rfl⟩
  rw [← hn] at hpv hlc
  have HN := Lib.hid hn
  have c7 : (w.alloc (.cells (ndA N) 120)).cell? ⟨w.heap.size, 7, none⟩ = some (.slice ap n cp) := by rw [hr.cell, ← hpv]; rfl
  have c4 : ∀ wx, Below (w.alloc (.cells (ndA N) 120)).heap.size (w.alloc (.cells (ndA N) 120)) wx → wx.cell? ⟨w.heap.size, 4, none⟩ = some (.int .i64 L) := fun wx hb => by rw [(hr.keep hb).cell, ← hsz]; rfl
  have HC4 := Lib.hid c4
  have HB0 := Lib.hid hal
  clear h ha hp hl hsz hL hal hr hn c4
  go_enter Tryz.func229, Tryz.ntmps229
  go_upto_region 2 with fail
  generalize w.alloc (.cells (ndA N) 120) = w0 at *
  go_wp2_with fail
  go_loopw [5, 14] (fun ov kv wr => ∃ k v, k ≤ n ∧ v = ov ∧ kv = .int .i64 (k : Nat) ∧ Hid (Below w0.heap.size w0 wr) ∧ Hid (OB w0.heap.size wr v (catP x (N.ps.take k)))) (fun _ kv _ => n - (intOf kv).toNat)
  case atStart => exact ⟨0, _, by omega, rfl, rfl, Lib.hid (Below.refl _ _), Lib.hid (OB.nil _ _)⟩
  case round =>
    obtain ⟨k, v, hk0, rfl, rfl, HB, HO⟩ := hrel
    by_cases hk : k < n
    · have i0 : (0 : Int) ≤ k := by omega
      have i1 : (k : Int) < n := by omega
      have hkn : k < N.ps.length := by have := HN.out; omega
      rcases HBC.out with e | ⟨b, off, rfl, hb, hc⟩
      · rw [e] at hkn; simp at hkn
      have hcj := (HB.out.cell (p := ⟨b, off + k, none⟩) hb).trans (hc k hkn)
      obtain ⟨p, hpk⟩ : ∃ p, p = N.ps.getD k 0 := ⟨_, rfl⟩
      have hpp : 0 < p ∧ p < 256 := by
        rw [hpk]
        refine HP.out _ ?_
        rw [List.getD_eq_getElem?_getD, List.getElem?_eq_getElem hkn]
        exact List.getElem_mem hkn
      rw [← hpk] at hcj
      have HPK := Lib.hid hpk
      obtain ⟨pn, hpn⟩ : ∃ pn : Nat, p = pn := ⟨p.toNat, by omega⟩
      subst hpn
      have p256 : pn < 256 := by omega
      have i2 : ¬ (pn : Int) = 0 := by omega
      have i3 : ((pn : Int) == 0) = false := by simp; omega
      have hHr : FSt wr c x := HH.out.keep (HB0.out.trans (HB.out.mono HB0.out.size))
      have hal1 := Go.Joins.below_alloc1 wr (.cells ((zeros 64).map u8V).toArray 5)
      have mk64 := mkB64 wr
      have HRD := Lib.hid (rread_is (hHr.keep hal1) p256 (n := (pn : Int)) rfl)
      have HFL := Lib.hid (fsec_len hHr p256)
      have HTK : Hid ((catP x (N.ps.take k)).length = 64 * k) := Lib.hid (by rw [catP_len HH.out _ (fun q hq => HP.out q (List.mem_of_mem_take hq)), List.length_take]; omega)
      have HK8 : Hid (k < 8) := Lib.hid (by have := HSZ.out.1; omega)
      have HAL := Lib.hid hal1
      clear hc hpk hpp hHr hal1 hkn hb
      go_upto_region 10 with (go_at_call 427; (with_reducible refine HRD.out.mono ?_); rintro e5 w5 ⟨v5, rfl, ho5, hb5⟩)
      obtain ⟨p5, c5, rfl⟩ := own_form ho5
      obtain ⟨b5, o5, rfl, hc5⟩ := own_cells ho5 rfl (by rw [HFL.out]; decide)
      have hfl := HFL.out
      rw [hfl]
      have HB5 := Lib.hid (HAL.out.trans (hb5.mono HAL.out.size))
      obtain ⟨p6, c6, w6, hap, ho6, hb6⟩ := (HO.out.keep HB5.out).app' (HB.out.trans (HB5.out.mono HB.out.size)).size (c := c5) HFL.out hc5 (by rw [HTK.out]; have := HK8.out; omega)
      have HO6 : Hid (OB w0.heap.size w6 (.slice p6 ((catP x (N.ps.take k)).length + 64) c6) (catP x (N.ps.take (k + 1)))) := Lib.hid (by
        rw [catP_next x N.ps (by have := HN.out; omega), ← HPK.out]
        exact ho6)
      have HB6 := Lib.hid (HB.out.trans ((HB5.out.mono HB.out.size).trans hb6))
      clear ho6 hb6 ho5 hb5 hc5 HRD mk64
      have hap : (appB #[v, .slice (some ⟨b5, o5, none⟩) 64 c5]).run Tryz.prog w5 = .ok (.slice p6 ((catP x (N.ps.take k)).length + 64) c6) w6 := hap
      go_wp2_with fail
      go_roundw
      case rel => exact ⟨k + 1, _, by omega, rfl, by go_num, HB6, HO6⟩
      case measure => simp [intOf]; omega
    · obtain rfl : k = n := by omega
      have HO1 : Hid (OB w0.heap.size wr v (catP x N.ps)) := Lib.hid (by
        have := HO.out
        rw [HN.out, List.take_length] at this
        exact this)
      obtain ⟨pv, cv, rfl⟩ := own_form HO1.out
      have HLN := Lib.hid HCL.out
      have c4 := HC4.out wr HB.out
      have hcv : (cv : Int) ≤ 9223372036854775807 := by have := owns_cap HO1.out; unfold maxLen at this; omega
      obtain ⟨M, hM⟩ : ∃ M, M = (catP x N.ps).length := ⟨_, rfl⟩
      have hML : L ≤ M := by rw [hM, HCL.out]; exact HSZ.out.2.2
      rw [← hM]
      have hMc : M ≤ cv := by
        obtain ⟨a', c', e, h1, h2, h3⟩ := HO1.out.at
        injection e with e1 e2 e3
        rw [hM, e3]; exact h1
      have i5 : (L : Int) ≤ M := by omega
      have i6 : (L : Int) ≤ cv := by omega
      have i7 : min (M : Int) (L : Int) = L := by omega
      have HR : Hid (OB w.heap.size wr (.slice pv L cv) ((catP x N.ps).take L)) := Lib.hid (by
        have h1 := HO1.out.base HB0.out.size
        rw [← hM] at h1
        exact h1.takeN hM.symm hML)
      clear HO1 HO hM hMc
      rcases Nat.lt_or_eq_of_le hML with hlt | rfl
      all_goals
        go_wp2_with fail
        go_ret
        exact ⟨_, rfl, HR.out, HB0.out.trans (HB.out.mono HB0.out.size)⟩
set_option maxRecDepth 100000 in
set_option maxHeartbeats 1600000 in
theorem piece_is {v : Value} {l : List Int} (hv : At (Value.int .u8) 0 w v l) (hl : l.length ≤ 512) {a n : Nat} (ha : a ≤ 1000) (hn : n ≤ 1000) :
    Calls Tryz.prog 228 #[v, .int .i64 a, .int .i64 n] w fun e w' => ∃ v', e = .returned v' ∧ OB w.heap.size w' v' ((l.drop a).take n) ∧ Below w.heap.size w w' := by
  have HV := Lib.hid hv
  obtain ⟨p, cp, rfl, hlc, mcp, -⟩ := hv
  have hcp : (cp : Int) ≤ 9223372036854775807 := by unfold maxLen at mcp; omega
  obtain ⟨L, hL⟩ : ∃ L, L = l.length := ⟨_, rfl⟩
  rw [← hL] at hl hlc ⊢
  have HL := Lib.hid hL
  by_cases hal : L ≤ a
  · have i1 : (L : Int) ≤ a := by omega
    have HR : Hid ((l.drop a).take n = []) := Lib.hid (by rw [List.drop_eq_nil_of_le (by omega), List.take_nil])
    clear hL
    go_enter Tryz.func228, Tryz.ntmps228
    go_wp2_with fail
    go_ret
    exact ⟨_, rfl, by rw [HR.out]; exact OB.nil _ _, Below.refl _ _⟩
  · have i1 : ¬ (L : Int) ≤ a := by omega
    rcases At.cellB HV.out with e | ⟨b, o, rfl, hb, hc⟩
    · rw [e] at hL; simp at hL; omega
    obtain ⟨s, hs⟩ : ∃ s, s = a + n := ⟨_, rfl⟩
    have y1 : IntKind.i64.wrap ((a : Int) + n) = (s : Int) := by rw [IntWalk.i64_in _ (by omega)]; omega
    have HV' : At (Value.int .u8) 0 w (.slice (some ⟨b, o, none⟩) L cp) l := by have := HV.out; rw [← hL] at this; exact this
    by_cases hsL : s < L
    · have i2 : (s : Int) < L := by omega
      have i3 : ¬ (L : Int) ≤ s := by omega
      have i4 : (a : Int) ≤ s := by omega
      have i5 : (s : Int) ≤ L := by omega
      have i6 : (s : Int) ≤ cp := by omega
      have HS := Lib.hid (At.sub HV' (lo := a) (k := s - a) (by omega) hb)
      have HCL := Lib.hid (cloneB_is (by simp; omega) HS.out)
      have HE : Hid (s - a = n) := Lib.hid (by omega)
      clear hc hb hL HV' hs
      go_enter Tryz.func228, Tryz.ntmps228
      go_wp2_with (go_at_call 107; (with_reducible refine HCL.out.mono ?_); rintro e1 w1 ⟨v1, rfl, ho1, hb1⟩)
      go_ret
      exact ⟨_, rfl, by rw [← HE.out]; exact ho1, hb1⟩
    · have i3 : (L : Int) ≤ s := by omega
      have i2 : ¬ (s : Int) < L := by omega
      have i4 : (a : Int) ≤ L := by omega
      have i6 : (L : Int) ≤ cp := by omega
      have HS := Lib.hid (At.sub HV' (lo := a) (k := L - a) (by omega) hb)
      have HCL := Lib.hid (cloneB_is (by simp; omega) HS.out)
      have HE : Hid ((l.drop a).take (L - a) = (l.drop a).take n) := Lib.hid (by rw [List.take_of_length_le (by simp; omega), List.take_of_length_le (by simp; omega)])
      clear hc hb hL HV' hs
      go_enter Tryz.func228, Tryz.ntmps228
      go_wp2_with (go_at_call 107; (with_reducible refine HCL.out.mono ?_); rintro e1 w1 ⟨v1, rfl, ho1, hb1⟩)
      go_ret
      exact ⟨_, rfl, by rw [← HE.out]; exact ho1, hb1⟩
attribute [local go_sem ↓] ld_ino
set_option maxRecDepth 100000 in
set_option maxHeartbeats 1600000 in
theorem readF_is (h : FSt w c x) {i : Nat} (hi : i < 32) {ni : Int} (hni : ni = i + 1) (hk : (x.nd i).k = 1) (hp : ∀ p ∈ (x.nd i).ps, 0 < p ∧ p < 256) (hl : (x.nd i).ps.length ≤ 8) {L : Nat} (hsz : (x.nd i).sz = L) (hL : L ≤ 64 * (x.nd i).ps.length) {a n : Nat} (ha : a ≤ 1000) (hn : n ≤ 512) :
    Calls Tryz.prog 158 #[.pointer (some ⟨c.F, 0, none⟩), .int .i64 ni, .int .i64 a, .int .i64 n] w fun e w' => ∃ v, e = .returned (.tuple #[v, .int .i64 0]) ∧ OB w.heap.size w' v ((((catP x (x.nd i).ps).take L).drop a).take n) ∧ Below w.heap.size w w' := by
  have HFI := Lib.hid (fileF_is h hi hni hk)
  have c4 := h.c4
  obtain ⟨C, hC⟩ := h.nb
  have l1 := hC.ld hi
  have hcm : (x.cap : Int) ≤ 9223372036854775807 := by have := h.cp.2; unfold maxLen at this; omega
  have y1 : IntKind.i64.wrap (ni - 1) = i := by rw [IntWalk.i64_in _ (by omega)]; omega
  have i3 : (i : Int) < 32 := by omega
  have i0 : (0 : Int) ≤ i := by omega
  have a0 : ¬ (a : Int) < 0 := by omega
  have n0 : ¬ (n : Int) < 0 := by omega
  have n1 : ¬ (512 : Int) < n := by omega
  have HBY := Lib.hid (bytesF_is h (h.ps i hi).1.a hp hl hsz hL)
  have HLC : Hid (((catP x (x.nd i).ps).take L).length ≤ 512) := Lib.hid (by rw [List.length_take, catP_len h _ hp]; omega)
  have HN := Lib.hid (And.intro ha hn)
  generalize (catP x (x.nd i).ps).take L = bs at *
  generalize ndA (x.nd i) = A at *
  clear h hC hk hp hl hsz hL hn hni ha
  go_enter Tryz.func158, Tryz.ntmps158
  go_wp2_with (first | (go_at_call 128; (with_reducible refine HFI.out.mono ?_); rintro e0 w0 ⟨rfl, rfl⟩) | (go_at_call 229; (with_reducible refine HBY.out.mono ?_); rintro e2 w2 ⟨v2, rfl, ho2, hb2⟩; have HPC := Lib.hid (piece_is (ho2.at) HLC.out (a := a) (n := n) HN.out.1 (by have := HN.out.2; omega)); have HB2 := Lib.hid hb2; clear ho2 hb2) | (go_at_call 228; (with_reducible refine HPC.out.mono ?_); rintro e3 w3 ⟨v3, rfl, ho3, hb3⟩))
  go_ret2
  exact ⟨_, rfl, ho3.base HB2.out.size, HB2.out.trans (hb3.mono HB2.out.size)⟩
end
end Go.Proofs.YtlfemcbfclallaaGreatDoor
namespace Go.Proofs.YtlfemcbfclallaaGreatDoor
open Go.RowKit Go.Maps
set_option linter.unusedVariables false
set_option linter.unusedSimpArgs false
def blkz (z : List Int) : Nat := (z.length + 63) / 64
structure FileZ (x : FM) (q : Nat) (m : Int) (z : List Int) : Prop where
  k : (x.nd 0).k = 2
  m0 : (x.nd 0).m = 493
  u : (x.nd 0).u = 0
  g : (x.nd 0).g = 0
  ps : (x.nd 0).ps = [(q : Int)]
  sz : (x.nd 0).sz = 16
  q0 : q ≠ 0
  q1 : q + 8 ≤ 256
  sec : (fsec x q).take 16 = entL
  n1 : ∃ pv, x.nd 1 = ⟨1, m, 0, 0, z.length, 1, 0, pv, pts (q + 1) (blkz z) (blkz z)⟩
  dat : ∀ j, j < blkz z → fsec x (q + 1 + j) = secW z j
  nz : ∀ i, 2 ≤ i → i < 32 → x.nd i = nd0
  G : ∀ k, k < 16 → 37 ≤ x.G k ∧ x.G k < 256
  na : x.na ≤ 20
  l0 : (x.nd 0).l = 1 ∧ (x.nd 0).up = 1
  gd : 37 ≤ q + 1 ∧ ∀ j, j < blkz z → ∀ k, k < 16 → x.G k ≠ q + 1 + j
structure FileR (x : FM) (q : Nat) (z : List Int) : Prop where
  q1 : q + 8 ≤ 256
  n1 : ∃ m l pv, x.nd 1 = ⟨1, m, 0, 0, z.length, l, 0, pv, pts (q + 1) (blkz z) (blkz z)⟩
  dat : ∀ j, j < blkz z → fsec x (q + 1 + j) = secW z j
theorem FileZ.r {x : FM} {q : Nat} {m : Int} {z : List Int} (h : FileZ x q m z) : FileR x q z := by
  obtain ⟨pv, e⟩ := h.n1
  exact ⟨h.q1, ⟨m, 1, pv, e⟩, h.dat⟩
theorem Free.le {G : Nat → Nat} {q K K' : Nat} (h : Free G q K) (hk : K' ≤ K) : Free G q K' := ⟨h.lo, by have := h.hi; omega, fun j hj => h.no j (by omega), h.al⟩
theorem FileF.z {x : FM} {q : Nat} {m : Int} (h : FileF x q m) : FileZ x q m [] := by
  have := h.x.free.hi
  refine ⟨h.k, h.m0, h.u, h.g, h.ps, h.sz, h.q0, by omega, h.sec, h.n1, fun j hj => by simp [blkz] at hj, h.x.nz, fun k hk => ⟨(h.x.G k hk).1, (h.x.G k hk).2.1⟩, by have := h.x.na; omega, h.x.l0, h.x.free.lo, fun j hj => by simp [blkz] at hj⟩
theorem FileF.y {x : FM} {q : Nat} {m : Int} (h : FileF x q m) {K : Nat} (hK : K ≤ 4) : FileY x (q + 1) K := by
  have hq := h.x.free.lo
  have hq2 := h.x.free.hi
  refine ⟨⟨by have := h.k; omega, by have := h.m0; omega, by have := h.u; omega, by have := h.g; omega, by have := h.x.l0; omega, .inl ⟨h.k, by have := h.x.l0; omega, by have := h.x.l0; omega⟩, ⟨by rw [h.ps]; simp, fun p hp => ?_⟩, 16, h.sz, by decide, by rw [h.ps]; rfl⟩, h.x.nz, h.x.G, h.x.free.le (by omega), by have := h.x.na; omega⟩
  rw [h.ps] at hp
  simp at hp
  have := h.q1
  omega
section
variable {w : World} {c : FC} {x : FM}
theorem FileF.wrote {w' : World} {x' : FM} {q : Nat} {m : Int} {z : List Int} (h : FileF x q m) (hz : z.length ≤ 256) (hw : WroteF w w' c x (q + 1) (blkz z) z x') : FileZ x' q m z := by
  have hb : blkz z ≤ 4 := by unfold blkz; omega
  have hq := h.x.free.lo
  have hq2 := h.x.free.hi
  refine ⟨by rw [hw.n0]; exact h.k, by rw [hw.n0]; exact h.m0, by rw [hw.n0]; exact h.u, by rw [hw.n0]; exact h.g, by rw [hw.n0]; exact h.ps, by rw [hw.n0]; exact h.sz, h.q0, by omega, ?_, ?_, hw.sec, fun i h1 h2 => (hw.nz i h1).trans (h.x.nz i h1 h2), fun k hk => ?_, by have := hw.na; have := h.x.na; omega, by rw [hw.n0]; exact h.x.l0, hq, fun j hj k hk => by rw [hw.G, gN_off _ hk]; exact (h.x.free.le (by omega : blkz z ≤ 7)).ne (h.x.G k hk).2.2 j hj⟩
  · rw [hw.old q (by omega) (fun j hj => by omega) (fun i hi e => h.x.Gq i hi e.symm)]
    exact h.sec
  · obtain ⟨pv, e⟩ := hw.n1
    obtain ⟨pv0, e0⟩ := h.n1
    exact ⟨pv, by rw [e, e0]⟩
  · rw [hw.G, gN_off _ hk]
    exact ⟨(h.x.G k hk).1, (h.x.G k hk).2.1⟩
set_option maxRecDepth 100000 in
set_option maxHeartbeats 800000 in
theorem write0_is (h : FSt w c x) (hk : (x.nd 1).k = 1) (a : Option Addr) (cp : Nat) (hc : cp ≤ maxLen) :
    Calls Tryz.prog 62 #[.pointer (some ⟨c.F, 0, none⟩), .int .i64 2, .int .i64 0, .slice a 0 cp] w fun e w' => e = .returned (.tuple #[.int .i64 0, .int .i64 0]) ∧ w = w' := by
  have HFI := Lib.hid (fileF_is h (i := 1) (by decide) (n := 2) rfl hk)
  clear h hk
  go_enter Tryz.func62, Tryz.ntmps62
  go_wp2_with (go_at_call 128; (with_reducible refine HFI.out.mono ?_); rintro e0 w0 ⟨rfl, rfl⟩)
  go_ret2
  exact ⟨rfl, rfl⟩
theorem writeZ_is (h : FSt w c x) {q : Nat} {m : Int} (hf : FileF x q m) (hm : 0 ≤ m ∧ m ≤ 511) {v : Value} {z : List Int} (hz : At (Value.int .u8) 0 w v z) (hz2 : z.length ≤ 256) :
    Calls Tryz.prog 62 #[.pointer (some ⟨c.F, 0, none⟩), .int .i64 2, .int .i64 0, v] w fun e w' => e = .returned (.tuple #[.int .i64 z.length, .int .i64 0]) ∧ ∃ x', FSt w' c x' ∧ FileZ x' q m z ∧ x'.held = x.held ∧ x'.nh = x.nh ∧ (∀ j, x'.bs j → x.bs j ∨ w.heap.size ≤ j) ∧ Upd x.bs w w' := by
  obtain ⟨pv, e1⟩ := hf.n1
  have hk : (x.nd 1).k = 1 := by rw [e1]
  by_cases h0 : z.length = 0
  · obtain ⟨a, cp, rfl, lz, mz, -⟩ := hz
    rw [h0]
    refine (write0_is h hk a cp mz).mono ?_
    rintro e w' ⟨rfl, rfl⟩
    have hz : z = [] := List.length_eq_zero_iff.1 h0
    subst hz
    exact ⟨rfl, x, h, hf.z, rfl, rfl, fun j e => .inl e, Upd.refl _ _⟩
  · have hb : blkz z = (z.length - 1) / 64 + 1 := by unfold blkz; omega
    have hb4 : blkz z ≤ 4 := by unfold blkz; omega
    refine (writeF_is h hk (by rw [e1]) (by rw [e1]) (hf.y hb4) hz (by omega) hz2 hb (fun v8 => ?_)).mono ?_
    · rw [e1]
      refine ⟨by simp, hm, by simp, by simp, by simp, .inr ⟨by simp, rfl⟩, ⟨by rw [pts_len]; omega, pts_in (by have := hf.x.free.hi; omega)⟩, z.length, rfl, by omega, by rw [pts_len]; rfl⟩
    · rintro e w' ⟨rfl, x', hw⟩
      exact ⟨rfl, x', hw.st, hf.wrote hz2 hw, hw.held.1, hw.held.2, hw.bs, hw.up.mono fun i _ e => by
        rcases e with rfl | rfl
        · exact h.bm _ (.inl rfl)
        · exact h.bm _ (.inr (.inl rfl))⟩
theorem catW_len (z : List Int) : ∀ K, ((List.range K).flatMap (secW z)).length = 64 * K
  | 0 => rfl
  | K + 1 => by
    rw [List.range_succ, List.flatMap_append, List.length_append, catW_len z K]
    simp [secW_len]
    omega
theorem catW_get (z : List Int) : ∀ K i, i < 64 * K → ((List.range K).flatMap (secW z))[i]? = some (z.getD i 0)
  | 0, i, h => by omega
  | K + 1, i, h => by
    rw [List.range_succ, List.flatMap_append]
    by_cases hi : i < 64 * K
    · rw [List.getElem?_append_left (by rw [catW_len]; exact hi)]
      exact catW_get z K i hi
    · rw [List.getElem?_append_right (by rw [catW_len]; omega), catW_len]
      have hj : i - 64 * K < 64 := by omega
      have e : 64 * K + (i - 64 * K) = i := by omega
      simp [secW, hj, e]
theorem flatMap_same {f g : Nat → List Int} : ∀ l : List Nat, (∀ j, j ∈ l → f j = g j) → l.flatMap f = l.flatMap g
  | [], _ => rfl
  | a :: l, h => by
    rw [List.flatMap_cons, List.flatMap_cons, h a (List.mem_cons_self ..), flatMap_same l (fun j hj => h j (List.mem_cons_of_mem _ hj))]
theorem catW_take {z : List Int} {x : FM} {q : Nat} (hd : ∀ j, j < blkz z → fsec x (q + j) = secW z j) : (catP x (pts q (blkz z) (blkz z))).take z.length = z := by
  have e : catP x (pts q (blkz z) (blkz z)) = (List.range (blkz z)).flatMap (secW z) := by
    unfold catP pts
    rw [List.flatMap_map]
    refine flatMap_same _ (fun j hj => ?_)
    have hj : j < blkz z := List.mem_range.1 hj
    show fsec x (Int.toNat (if j < blkz z then ((q + j : Nat) : Int) else 0)) = _
    rw [if_pos hj, Int.toNat_natCast]
    exact hd j hj
  rw [e]
  apply List.ext_getElem?
  intro i
  rw [List.getElem?_take]
  by_cases hi : i < z.length
  · rw [if_pos hi, catW_get z _ i (by unfold blkz; omega)]
    simp [hi]
  · rw [if_neg hi, List.getElem?_eq_none (by omega)]
end
end Go.Proofs.YtlfemcbfclallaaGreatDoor
namespace Go.Proofs.YtlfemcbfclallaaGreatDoor
open Go.RowKit Go.Maps
set_option linter.unusedVariables false
set_option linter.unusedSimpArgs false
structure Gone (x : FM) (q : Nat) (z : List Int) : Prop where
  k : (x.nd 0).k = 2
  m0 : (x.nd 0).m = 493
  u : (x.nd 0).u = 0
  g : (x.nd 0).g = 0
  ps : (x.nd 0).ps = []
  sz : (x.nd 0).sz = 0
  r : FileR x q z
section
variable {w : World} {c : FC} {x : FM}
attribute [local go_sem ↓] ld_ino st_ino2
set_option maxRecDepth 100000 in
set_option maxHeartbeats 1000000 in
theorem unlink_is (h : FSt w c x) {q : Nat} {m : Int} {z : List Int} (hf : FileZ x q m z) (hm : 0 ≤ m ∧ m ≤ 511) (hz2 : z.length ≤ 256) (hh : 0 < hcn (x.held 2)) :
    Calls Tryz.prog 163 #[.pointer (some ⟨c.F, 0, none⟩), .int .i64 1, .string ⟨#[102]⟩] w fun e w' => e = .returned (.int .i64 0) ∧ (∃ x', FSt w' c x' ∧ Gone x' q z ∧ x'.held = x.held ∧ x'.nh = x.nh ∧ x'.a = x.a ∧ ∀ j, x'.bs j → x.bs j ∨ w.heap.size ≤ j) ∧ Upd (fun j => j = c.F ∨ j = x.a) w w' := by
  have HFI := Lib.hid (find1F_is h (i := 0) (by decide) (n := 1) rfl hf.k hf.ps hf.q0 (by have := hf.q1; omega) hf.sz hf.sec)
  obtain ⟨pv, e1⟩ := hf.n1
  have HH := Lib.hid h
  have HX := Lib.hid (And.intro hf (And.intro hm (And.intro hz2 (And.intro hh e1))))
  obtain ⟨N, hNd⟩ : ∃ N, N = x.nd 1 := ⟨_, rfl⟩
  have hk1 : N.k = 1 := by rw [hNd, e1]
  have HND := Lib.hid hNd
  have hsn := fun w => st0_new w (T := 120) (c := #[.int .i64 0, .int .i64 0, .int .i64 0, .int .i64 0, .int .i64 0, .int .i64 0, .int .i64 0, .slice none 0 0]) (cs := ndA N) rfl (by rw [ndA_size]; kernel_rfl) (ndA_one N (by rw [hNd]; exact ip_one (h.ps 1 (by decide)).1))
  have hcm : (x.cap : Int) ≤ 9223372036854775807 := by have := h.cp.2; unfold maxLen at this; omega
  clear h hf hm hz2 hh e1 hNd
  go_enter Tryz.func163, Tryz.ntmps163
  go_upto_region 4 with (go_at_call 125; (with_reducible refine HFI.out.mono ?_); rintro e1 w1 ⟨rfl, hb1⟩; have HB1 := Lib.hid hb1; clear hb1)
  have HF1 := Lib.hid (HH.out.keep HB1.out)
  have c4 := HF1.out.c4
  obtain ⟨C, hC⟩ := HF1.out.nb
  have l1 := hC.ld (i := 1) (by decide)
  rw [← HND.out] at l1
  clear hC
  go_upto_region 5 with fail
  have hr2 := row_new w1 120 (ndA N)
  have k0 : (w1.alloc (.cells (ndA N) 120)).cell? ⟨w1.heap.size, 0, none⟩ = some (.int .i64 1) := by rw [hr2.cell]; show some (Value.int .i64 N.k) = _; rw [hk1]
  have HB2 := Lib.hid (HB1.out.trans ((Go.Joins.below_alloc1 w1 (.cells (ndA N) 120)).mono HB1.out.size))
  clear hsn c4 l1 hr2 HF1
  generalize w1.alloc (.cells (ndA N) 120) = w2 at *
  have HBG := Lib.hid (begin_is (HH.out.keep HB2.out))
  go_upto_region 8 with (go_at_call 55; (with_reducible refine HBG.out.mono ?_); rintro e2 w3 ⟨t, g, cap, db, pb, rfl, hT⟩; have HT3 := Lib.hid hT; clear hT)
  have HLE := Lib.hid (leave1_is HT3.out (q := q) HX.out.1.ps HX.out.1.q0 (by have := HX.out.1.q1; omega) HX.out.1.sz (by have e : tsec x (tm0 x g cap db pb) q = fsec x q := rfl; rw [e]; exact HX.out.1.sec) rfl (by show (0 : Nat) < 1000; decide))
  go_upto_region 9 with (go_at_call 233; (with_reducible refine HLE.out.mono ?_); rintro e4 w4 ⟨rfl, ⟨v4, gv4, hT⟩, hu⟩; have HT4 := Lib.hid hT; have HU4 := Lib.hid hu; clear hT hu)
  have HDR := Lib.hid (dropH_is HT4.out (by show (x.nd 1).l = 1; rw [HX.out.2.2.2.2]) HX.out.2.2.2.1 (by show (0 : Nat) + 1 < 1000; decide))
  go_upto_region 10 with (go_at_call 234; (with_reducible refine HDR.out.mono ?_); rintro e5 w5 ⟨rfl, hT, hu⟩; have HT5 := Lib.hid hT; have HU5 := Lib.hid hu; clear hT hu)
  obtain ⟨Y, hY⟩ : ∃ Y : TM, Y = { ({ tm0 x g cap db pb with nd := ups1 (tm0 x g cap db pb).nd 0 { ((tm0 x g cap db pb).nd 0) with sz := 0, pv := v4, ps := [] }, dy := fun j => if j = 1 then some () else (tm0 x g cap db pb).dy j, nb := (tm0 x g cap db pb).nb + 1, gv := gv4, gl := [(q : Int)] } : TM) with nd := ups1 (ups1 (tm0 x g cap db pb).nd 0 { ((tm0 x g cap db pb).nd 0) with sz := 0, pv := v4, ps := [] }) 1 { (ups1 (tm0 x g cap db pb).nd 0 { ((tm0 x g cap db pb).nd 0) with sz := 0, pv := v4, ps := [] } 1) with l := 0 }, dy := fun j => if j = 2 then some () else if j = 1 then some () else (tm0 x g cap db pb).dy j, nb := (tm0 x g cap db pb).nb + 1 + 1 } := ⟨_, rfl⟩
  have hT5 := HT5.out
  rw [← hY] at hT5
  have y0 : Y.nd 0 = { (x.nd 0) with sz := 0, pv := v4, ps := [] } := by rw [hY]; rfl
  have y1 : Y.nd 1 = { (x.nd 1) with l := 0 } := by rw [hY]; rfl
  have yi : ∀ i, 2 ≤ i → Y.nd i = x.nd i := fun i hi => by
    rw [hY]
    show ups1 (ups1 x.nd 0 _) 1 _ i = _
    rw [ups1_off _ _ (by omega), ups1_off _ _ (by omega)]
  have yG : Y.G = x.G := by rw [hY]; rfl
  have ygl : Y.gl = [(q : Int)] := by rw [hY]
  have ynp : Y.np = 0 := by rw [hY]; rfl
  have ypt : ∀ j, Y.pt j = none := fun j => by rw [hY]; rfl
  have yd : ∀ j, j ≠ 1 → j ≠ 2 → Y.dy j = none := fun j h1 h2 => by
    rw [hY]
    show (if j = 2 then some () else if j = 1 then some () else none) = none
    rw [if_neg h2, if_neg h1]
  have hc1 : cntD Y 16 ≤ 1 := cntD_one Y (fun k hk => by
    unfold dirt
    rw [yd _ (by omega) (by omega), yd _ (by omega) (by omega)]
    rfl) 16
  obtain ⟨hf, hm, hz2, hh, e1⟩ := HX.out
  have hb4 : blkz z ≤ 4 := by unfold blkz; omega
  have hEN := endG_is hT5 (q := q) ⟨by have := hf.gd.1; omega, by have := hf.q1; omega⟩ (fun i hi => by
    rcases i with _ | _ | i
    · left
      rw [y0]
      exact ⟨by show 1 ≤ (x.nd 0).k ∧ _; rw [hf.k]; decide, by show 0 ≤ (x.nd 0).m ∧ _; rw [hf.m0]; decide, by show 0 ≤ (x.nd 0).u ∧ _; rw [hf.u]; decide, by show 0 ≤ (x.nd 0).g ∧ _; rw [hf.g]; decide, by show 0 ≤ (x.nd 0).l ∧ _; rw [hf.l0.1]; decide, .inl ⟨hf.k, by show 1 ≤ (x.nd 0).up ∧ _; rw [hf.l0.2]; decide⟩, ⟨by simp, fun p hp => by simp at hp⟩, 0, rfl, by decide, rfl⟩
    · left
      rw [y1, e1]
      exact ⟨by simp, hm, by simp, by simp, by simp, .inr ⟨by simp, rfl⟩, ⟨by rw [pts_len]; omega, pts_in (by have := hf.q1; omega)⟩, z.length, rfl, by omega, by rw [pts_len]; rfl⟩
    · right
      rw [yi _ (by omega)]
      exact hf.nz _ (by omega) hi) (fun k hk => by rw [yG]; have := hf.G k hk; omega) ygl (by have := hf.na; omega) (fun j _ _ => ypt j)
  have HEN := Lib.hid hEN
  have HZ := Lib.hid (And.intro hb4 (And.intro y0 (And.intro y1 (And.intro yG (And.intro ynp (And.intro ypt yd))))))
  have HYN := Lib.hid hY
  clear hT5 hY hEN hc1 hf hm hz2 hh e1 hb4 y0 y1 yi yG ygl ynp ypt yd
  go_wp2_with (go_at_call 57; (with_reducible refine HEN.out.mono ?_); rintro e6 w6 ⟨rfl, ⟨P, n, B, G', hn, hoff, hG', hF⟩, hu⟩; have HE6 := Lib.hid hn; have HO6 := Lib.hid hoff; have HG6 := Lib.hid hG'; have HF6 := Lib.hid hF; have HU6 := Lib.hid hu; clear hn hoff hG' hF hu)
  go_ret
  obtain ⟨hb4, y0, y1, yG, ynp, ypt, yd⟩ := HZ.out
  obtain ⟨hf, hm, hz2, hh, e1⟩ := HX.out
  refine ⟨rfl, ⟨_, HF6.out, ⟨?_, ?_, ?_, ?_, ?_, ?_, ⟨hf.q1, ⟨m, 0, pv, ?_⟩, fun j hj => ?_⟩⟩, rfl, rfl, rfl, fun j hj => ?_⟩, (Upd.below HB2.out).trans HU6.out⟩
  · show (Y.nd 0).k = 2; rw [y0]; exact hf.k
  · show (Y.nd 0).m = 493; rw [y0]; exact hf.m0
  · show (Y.nd 0).u = 0; rw [y0]; exact hf.u
  · show (Y.nd 0).g = 0; rw [y0]; exact hf.g
  · show (Y.nd 0).ps = []; rw [y0]
  · show (Y.nd 0).sz = 0; rw [y0]
  · show Y.nd 1 = _; rw [y1, e1]
  · rw [keptM_sec]
    unfold tsec
    have h37 := hf.gd.1
    obtain ⟨e2, -⟩ := HO6.out ((q + 1 + j : Nat) : Int) (fun i hi _ e => hf.gd.2 j hj i hi (by rw [yG] at e; omega)) (by omega) (by omega)
    show (if (P ((q + 1 + j : Nat) : Int)).isSome = true then B ((q + 1 + j : Nat) : Int) else _) = _
    rw [e2, ypt]
    exact hf.dat j hj
  · rcases hj with hj | hj
    · exact .inl hj
    · exact .inr (Nat.le_trans HB2.out.size hj.1)
end
end Go.Proofs.YtlfemcbfclallaaGreatDoor




namespace Go.Proofs.YtlfemcbfclallaaGreatDoor
open Go.RowKit
set_option linter.unusedVariables false
set_option linter.unusedSimpArgs false
section
variable {w0 w : World} {Out : World → Array Value → World → Prop} {k : KC} {s : KSt} {fc : FC} {x : FM} {p : Nat} {A : Array Value} {U K : Int} {a : Option Addr} {cap gc cc : Nat}
attribute [local go_sem ↓] ld_ans st_ans ld_call bd_ans
set_option maxRecDepth 100000 in
set_option maxHeartbeats 1000000 in
theorem doN_is {K : Nat} {q : Int} (ok : OutOk w0 Out) {num : Int} (hn : num = 13 ∨ num = 17 ∨ num = 32) (hA : A.size = 7) (ha : A[0]? = some (.int .i64 num)) (hs : Spec w0 Out 39 #[.pointer (some ⟨K, 0, none⟩), .int .i64 q, .agg A]) :
    Spec w0 Out 18 #[.pointer (some ⟨K, 0, none⟩), .int .i64 q, .agg A] := by
  intro w h0
  have hb1 := Go.Joins.below_alloc1 w (.cells A 37)
  have hal : Below w.heap.size w ((w.alloc (.cells A 37)).alloc (.cells ansZ 34)) := hb1.trans ((Go.Joins.below_alloc1 _ _).mono hb1.size)
  have hr1 := (row_new w 37 A).alloc (.cells ansZ 34)
  have hr2 := row_new (w.alloc (.cells A 37)) 34 ansZ
  rw [size_alloc1] at hr2
  have d0 : ((w.alloc (.cells A 37)).alloc (.cells ansZ 34)).cell? ⟨w.heap.size, 0, none⟩ = some (.int .i64 num) := by rw [hr1.cell, ha]
  have l2 := ld_callR hr1 hA
  have HR : Hid (Row ((w.alloc (.cells A 37)).alloc (.cells #[.int .i64 0, .int .i64 0, .int .i64 0, .slice none 0 0, .slice none 0 0, .int .i64 0, .int .i64 0, .int .i64 0, .int .i64 0, .int .i64 0, .int .i64 0] 34)) (w.heap.size + 1) 34 ansZ) := Lib.hid hr2
  have HB := Lib.hid hal
  have HC := Lib.hid (hs _ (h0.trans (hal.mono h0.size)))
  have HOK := Lib.hid ok
  have H0 := Lib.hid h0
  have HLT := Lib.hid hr2.lt
  clear hal hr1 hr2 hA hs ok h0 ha hb1
  have hz : ansZ = #[.int .i64 0, .int .i64 0, .int .i64 0, .slice none 0 0, .slice none 0 0, .int .i64 0, .int .i64 0, .int .i64 0, .int .i64 0, .int .i64 0, .int .i64 0] := rfl
  rw [hz] at d0 l2 HB HC HLT
  rcases hn with rfl | rfl | rfl
  all_goals
    go_enter Tryz.func18, Tryz.ntmps18
    go_upto_region 1 with fail
    generalize (w.alloc (.cells A 37)).alloc (.cells #[.int .i64 0, .int .i64 0, .int .i64 0, .slice none 0 0, .slice none 0 0, .int .i64 0, .int .i64 0, .int .i64 0, .int .i64 0, .int .i64 0, .int .i64 0] 34) = w1 at *
    go_wp2_with (go_at_call 39; refine HC.out.mono ?_; rintro e2 w2 ⟨X, rfl, hX, hone, hu, ho⟩; have hr := ans_row H0.out HR.out (Nat.le_succ _) hu; have hst := ans_st hr hX hone; have HLD := Lib.hid (ans_ldV hr hX); have HP := Lib.hid (HOK.out.put (C := X) H0.out HB.out hu ho (Nat.le_succ _) HLT.out); have HX := Lib.hid (And.intro hX hone); clear hr hX hone hu ho; generalize w2.setRow (w.heap.size + 1) X = w3 at *)
    exact bodyPost_ret (v := .agg X) (by rw [results_cell1 rfl]; simp [asAddr, Result.andThen, HLD.out]) rfl ⟨X, rfl, HX.out.1, HX.out.2, HP.out.1, HP.out.2⟩
end
end Go.Proofs.YtlfemcbfclallaaGreatDoor
