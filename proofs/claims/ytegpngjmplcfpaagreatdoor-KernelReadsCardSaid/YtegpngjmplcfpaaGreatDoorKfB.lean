/- The walks of fs: the bytes of a file (check.Bytes through fs.reader), a piece of them, FS.Read. The walks of kernel.walk at "f". -/
import Derived.Test.YtegpngjmplcfpaaGreatDoorFwC
import Derived.Test.YtegpngjmplcfpaaGreatDoorFwA
namespace Go.Proofs.YtegpngjmplcfpaaGreatDoor
open Go.RowKit Go.Maps
set_option linter.unusedVariables false
set_option linter.unusedSimpArgs false
theorem method_rd (v : Value) (w : World) : (method 621 354 v "Read").run Tryz.prog w = .ok (429, v) w := by kernel_rfl
/-- a part of bytes -/
theorem At.sub {w : World} {l : List Int} {b o n c : Nat} (h : At (Value.int .u8) 0 w (.slice (some ⟨b, o, none⟩) n c) l) {lo k : Nat} (hk : lo + k ≤ l.length) (hb : b < w.heap.size) : At (Value.int .u8) 0 w (.slice (some ⟨b, o + lo, none⟩) k (c - lo)) ((l.drop lo).take k) := by
  obtain ⟨a, c', e, h1, h2, h3⟩ := h
  injection e with e1 e2 e3
  subst e1 e2 e3
  have hl : ((l.drop lo).take k).length = k := by rw [List.length_take, List.length_drop]; omega
  refine ⟨_, c - lo, by rw [hl], by rw [hl]; omega, by omega, ?_⟩
  rcases h3 with e | ⟨b', o', e, hb, hc⟩
  · left
    subst e
    simp
  · injection e with e
    injection e with e4 e5
    subst e4 e5
    refine .inr ⟨_, _, rfl, hb, fun i hi => ?_⟩
    rw [hl] at hi
    rw [show o + lo + i = o + (lo + i) by omega, hc (lo + i) (by omega)]
    congr 2
    simp [List.getD, List.getElem?_take, hi, List.getElem?_drop]
theorem OB.takeN {w : World} {B n c k : Nat} {p : Option Addr} {l : List Int} (h : OB B w (.slice p n c) l) (hl : l.length = n) (hk : k ≤ n) : OB B w (.slice p k c) (l.take k) := by
  unfold OB at h ⊢
  rw [hl] at h
  rcases Nat.eq_zero_or_pos n with e | e
  · have hk0 : k = 0 := by omega
    subst hk0
    subst e
    have hl0 : l = [] := List.length_eq_zero_iff.1 hl
    subst hl0
    exact h
  · have hlk : (l.take k).length = k := by rw [List.length_take]; omega
    rw [hlk, List.map_take]
    exact owns_take h hk e
/-- the bytes of some sectors -/
def catP (x : FM) (ps : List Int) : List Int := ps.flatMap fun p => fsec x p.toNat
section
variable {w : World} {c : FC} {x : FM}
theorem catP_len (h : FSt w c x) : ∀ ps : List Int, (∀ p ∈ ps, 0 < p ∧ p < 256) → (catP x ps).length = 64 * ps.length
  | [], _ => rfl
  | p :: ps, hp => by
    have ih := catP_len h ps (fun q hq => hp q (List.mem_cons_of_mem _ hq))
    have h1 := hp p (List.mem_cons_self ..)
    have h2 := fsec_len h (p := p.toNat) (by omega)
    unfold catP at ih ⊢
    rw [List.flatMap_cons, List.length_append, h2, ih, List.length_cons]
    omega
theorem catP_next (x : FM) (ps : List Int) {k : Nat} (hk : k < ps.length) : catP x (ps.take (k + 1)) = catP x (ps.take k) ++ fsec x (ps.getD k 0).toNat := by
  unfold catP
  rw [List.take_add_one, List.flatMap_append, List.getElem?_eq_getElem hk]
  simp [hk]
set_option maxRecDepth 100000 in
set_option maxHeartbeats 800000 in
theorem rread_is (h : FSt w c x) {p : Nat} (hp : p < 256) {n : Int} (hn : n = p) : Calls Tryz.prog 429 #[.agg #[.pointer (some ⟨c.F, 0, none⟩)], .int .i64 n] w fun e w' => ∃ v, e = .returned (.tuple #[v, .int .i64 0]) ∧ NewB (fsec x p) w v w' := by
  have hal := Go.Joins.below_alloc1 w (.cells #[.pointer (some ⟨c.F, 0, none⟩)] 354)
  have hr := row_new w 354 #[.pointer (some ⟨c.F, 0, none⟩)]
  have c0 : (w.alloc (.cells #[.pointer (some ⟨c.F, 0, none⟩)] 354)).cell? ⟨w.heap.size, 0, none⟩ = some (.pointer (some ⟨c.F, 0, none⟩)) := by rw [hr.cell]; rfl
  have HS := Lib.hid (sectorF_is (h.keep hal) hp hn)
  have HB := Lib.hid hal
  clear h hal hr hn
  go_enter Tryz.func429, Tryz.ntmps429
  go_upto_region 1 with fail
  generalize w.alloc (.cells #[.pointer (some ⟨c.F, 0, none⟩)] 354) = w1 at *
  go_wp2_with (go_at_call 265; (with_reducible refine HS.out.mono ?_); rintro e2 w2 ⟨v2, rfl, ho2, hb2⟩)
  go_ret2
  exact ⟨_, rfl, ho2.base HB.out.size, HB.out.trans (hb2.mono HB.out.size)⟩
attribute [local go_sem ↓] mkB_eq appB_eq
set_option maxRecDepth 100000 in
set_option maxHeartbeats 1600000 in
theorem bytesF_is (h : FSt w c x) {N : Nd} (ha : At (Value.int .i64) 0 w N.pv N.ps) (hp : ∀ p ∈ N.ps, 0 < p ∧ p < 256) (hl : N.ps.length ≤ 8) {L : Nat} (hsz : N.sz = L) (hL : L ≤ 64 * N.ps.length) :
    Calls Tryz.prog 231 #[.iface 354 (.agg #[.pointer (some ⟨c.F, 0, none⟩)]), .agg (ndA N)] w fun e w' => ∃ v, e = .returned v ∧ OB w.heap.size w' v ((catP x N.ps).take L) ∧ Below w.heap.size w w' := by
  have hmr := method_rd
  have HH := Lib.hid h
  have hal := Go.Joins.below_alloc1 w (.cells (ndA N) 122)
  have hr := row_new w 122 (ndA N)
  have hA := ha.keep hal
  have HP := Lib.hid hp
  have HCL := Lib.hid (catP_len h N.ps hp)
  have HA := Lib.hid hA
  have HSZ := Lib.hid (And.intro hl (And.intro hsz hL))
  obtain ⟨ap, cp, hpv, hlc, mcp, -⟩ := hA
  have HBC := Lib.hid (At.cellI (hpv ▸ HA.out))
  clear HA
  have mcp' : (cp : Int) ≤ 9223372036854775807 := by unfold maxLen at mcp; omega
  obtain ⟨n, hn⟩ : ∃ n, n = N.ps.length := ⟨_, rfl⟩
  rw [← hn] at hpv hlc
  have HN := Lib.hid hn
  have c7 : (w.alloc (.cells (ndA N) 122)).cell? ⟨w.heap.size, 7, none⟩ = some (.slice ap n cp) := by rw [hr.cell, ← hpv]; rfl
  have c4 : ∀ wx, Below (w.alloc (.cells (ndA N) 122)).heap.size (w.alloc (.cells (ndA N) 122)) wx → wx.cell? ⟨w.heap.size, 4, none⟩ = some (.int .i64 L) := fun wx hb => by rw [(hr.keep hb).cell, ← hsz]; rfl
  have HC4 := Lib.hid c4
  have HB0 := Lib.hid hal
  clear h ha hp hl hsz hL hal hr hn c4
  go_enter Tryz.func231, Tryz.ntmps231
  go_upto_region 2 with fail
  generalize w.alloc (.cells (ndA N) 122) = w0 at *
  go_wp2_with fail
  go_loopw [5, 14] (fun ov kv wr => ∃ k v, k ≤ n ∧ v = ov ∧ kv = .int .i64 (k : Nat) ∧ Hid (Below w0.heap.size w0 wr) ∧ Hid (OB w0.heap.size wr v (catP x (N.ps.take k)))) (fun _ kv _ => n - (intOf kv).toNat)
  case atStart => exact ⟨0, _, by omega, rfl, rfl, Lib.hid (Below.refl _ _), Lib.hid (OB.nil _ _)⟩
  case round =>
    obtain ⟨k, v, hk0, rfl, rfl, HB, HO⟩ := hrel
    by_cases hk : k < n
    · have i0 : (0 : Int) ≤ k := by omega
      have i1 : (k : Int) < n := by omega
      have hkn : k < N.ps.length := by have := HN.out; omega
      rcases HBC.out with e | ⟨b, off, rfl, hb, hc⟩
      · rw [e] at hkn; simp at hkn
      have hcj := (HB.out.cell (p := ⟨b, off + k, none⟩) hb).trans (hc k hkn)
      obtain ⟨p, hpk⟩ : ∃ p, p = N.ps.getD k 0 := ⟨_, rfl⟩
      have hpp : 0 < p ∧ p < 256 := by
        rw [hpk]
        refine HP.out _ ?_
        rw [List.getD_eq_getElem?_getD, List.getElem?_eq_getElem hkn]
        exact List.getElem_mem hkn
      rw [← hpk] at hcj
      have HPK := Lib.hid hpk
      obtain ⟨pn, hpn⟩ : ∃ pn : Nat, p = pn := ⟨p.toNat, by omega⟩
      subst hpn
      have p256 : pn < 256 := by omega
      have i2 : ¬ (pn : Int) = 0 := by omega
      have i3 : ((pn : Int) == 0) = false := by simp; omega
      have hHr : FSt wr c x := HH.out.keep (HB0.out.trans (HB.out.mono HB0.out.size))
      have hal1 := Go.Joins.below_alloc1 wr (.cells ((zeros 64).map u8V).toArray 5)
      have mk64 := mkB64 wr
      have HRD := Lib.hid (rread_is (hHr.keep hal1) p256 (n := (pn : Int)) rfl)
      have HFL := Lib.hid (fsec_len hHr p256)
      have HTK : Hid ((catP x (N.ps.take k)).length = 64 * k) := Lib.hid (by rw [catP_len HH.out _ (fun q hq => HP.out q (List.mem_of_mem_take hq)), List.length_take]; omega)
      have HK8 : Hid (k < 8) := Lib.hid (by have := HSZ.out.1; omega)
      have HAL := Lib.hid hal1
      clear hc hpk hpp hHr hal1 hkn hb
      go_upto_region 10 with (go_at_call 429; (with_reducible refine HRD.out.mono ?_); rintro e5 w5 ⟨v5, rfl, ho5, hb5⟩)
      obtain ⟨p5, c5, rfl⟩ := own_form ho5
      obtain ⟨b5, o5, rfl, hc5⟩ := own_cells ho5 rfl (by rw [HFL.out]; decide)
      have hfl := HFL.out
      rw [hfl]
      have HB5 := Lib.hid (HAL.out.trans (hb5.mono HAL.out.size))
      obtain ⟨p6, c6, w6, hap, ho6, hb6⟩ := (HO.out.keep HB5.out).app' (HB.out.trans (HB5.out.mono HB.out.size)).size (c := c5) HFL.out hc5 (by rw [HTK.out]; have := HK8.out; omega)
      have HO6 : Hid (OB w0.heap.size w6 (.slice p6 ((catP x (N.ps.take k)).length + 64) c6) (catP x (N.ps.take (k + 1)))) := Lib.hid (by
        rw [catP_next x N.ps (by have := HN.out; omega), ← HPK.out]
        exact ho6)
      have HB6 := Lib.hid (HB.out.trans ((HB5.out.mono HB.out.size).trans hb6))
      clear ho6 hb6 ho5 hb5 hc5 HRD mk64
      have hap : (appB #[v, .slice (some ⟨b5, o5, none⟩) 64 c5]).run Tryz.prog w5 = .ok (.slice p6 ((catP x (N.ps.take k)).length + 64) c6) w6 := hap
      go_wp2_with fail
      go_roundw
      case rel => exact ⟨k + 1, _, by omega, rfl, by go_num, HB6, HO6⟩
      case measure => simp [intOf]; omega
    · obtain rfl : k = n := by omega
      have HO1 : Hid (OB w0.heap.size wr v (catP x N.ps)) := Lib.hid (by
        have := HO.out
        rw [HN.out, List.take_length] at this
        exact this)
      obtain ⟨pv, cv, rfl⟩ := own_form HO1.out
      have HLN := Lib.hid HCL.out
      have c4 := HC4.out wr HB.out
      have hcv : (cv : Int) ≤ 9223372036854775807 := by have := owns_cap HO1.out; unfold maxLen at this; omega
      obtain ⟨M, hM⟩ : ∃ M, M = (catP x N.ps).length := ⟨_, rfl⟩
      have hML : L ≤ M := by rw [hM, HCL.out]; exact HSZ.out.2.2
      rw [← hM]
      have hMc : M ≤ cv := by
        obtain ⟨a', c', e, h1, h2, h3⟩ := HO1.out.at
        injection e with e1 e2 e3
        rw [hM, e3]; exact h1
      have i5 : (L : Int) ≤ M := by omega
      have i6 : (L : Int) ≤ cv := by omega
      have i7 : min (M : Int) (L : Int) = L := by omega
      have HR : Hid (OB w.heap.size wr (.slice pv L cv) ((catP x N.ps).take L)) := Lib.hid (by
        have h1 := HO1.out.base HB0.out.size
        rw [← hM] at h1
        exact h1.takeN hM.symm hML)
      clear HO1 HO hM hMc
      rcases Nat.lt_or_eq_of_le hML with hlt | rfl
      all_goals
        go_wp2_with fail
        go_ret
        exact ⟨_, rfl, HR.out, HB0.out.trans (HB.out.mono HB0.out.size)⟩
set_option maxRecDepth 100000 in
set_option maxHeartbeats 1600000 in
theorem piece_is {v : Value} {l : List Int} (hv : At (Value.int .u8) 0 w v l) (hl : l.length ≤ 512) {a n : Nat} (ha : a ≤ 1000) (hn : n ≤ 1000) :
    Calls Tryz.prog 230 #[v, .int .i64 a, .int .i64 n] w fun e w' => ∃ v', e = .returned v' ∧ OB w.heap.size w' v' ((l.drop a).take n) ∧ Below w.heap.size w w' := by
  have HV := Lib.hid hv
  obtain ⟨p, cp, rfl, hlc, mcp, -⟩ := hv
  have hcp : (cp : Int) ≤ 9223372036854775807 := by unfold maxLen at mcp; omega
  obtain ⟨L, hL⟩ : ∃ L, L = l.length := ⟨_, rfl⟩
  rw [← hL] at hl hlc ⊢
  have HL := Lib.hid hL
  by_cases hal : L ≤ a
  · have i1 : (L : Int) ≤ a := by omega
    have HR : Hid ((l.drop a).take n = []) := Lib.hid (by rw [List.drop_eq_nil_of_le (by omega), List.take_nil])
    clear hL
    go_enter Tryz.func230, Tryz.ntmps230
    go_wp2_with fail
    go_ret
    exact ⟨_, rfl, by rw [HR.out]; exact OB.nil _ _, Below.refl _ _⟩
  · have i1 : ¬ (L : Int) ≤ a := by omega
    rcases At.cellB HV.out with e | ⟨b, o, rfl, hb, hc⟩
    · rw [e] at hL; simp at hL; omega
    obtain ⟨s, hs⟩ : ∃ s, s = a + n := ⟨_, rfl⟩
    have y1 : IntKind.i64.wrap ((a : Int) + n) = (s : Int) := by rw [IntWalk.i64_in _ (by omega)]; omega
    have HV' : At (Value.int .u8) 0 w (.slice (some ⟨b, o, none⟩) L cp) l := by have := HV.out; rw [← hL] at this; exact this
    by_cases hsL : s < L
    · have i2 : (s : Int) < L := by omega
      have i3 : ¬ (L : Int) ≤ s := by omega
      have i4 : (a : Int) ≤ s := by omega
      have i5 : (s : Int) ≤ L := by omega
      have i6 : (s : Int) ≤ cp := by omega
      have HS := Lib.hid (At.sub HV' (lo := a) (k := s - a) (by omega) hb)
      have HCL := Lib.hid (cloneB_is (by simp; omega) HS.out)
      have HE : Hid (s - a = n) := Lib.hid (by omega)
      clear hc hb hL HV' hs
      go_enter Tryz.func230, Tryz.ntmps230
      go_wp2_with (go_at_call 109; (with_reducible refine HCL.out.mono ?_); rintro e1 w1 ⟨v1, rfl, ho1, hb1⟩)
      go_ret
      exact ⟨_, rfl, by rw [← HE.out]; exact ho1, hb1⟩
    · have i3 : (L : Int) ≤ s := by omega
      have i2 : ¬ (s : Int) < L := by omega
      have i4 : (a : Int) ≤ L := by omega
      have i6 : (L : Int) ≤ cp := by omega
      have HS := Lib.hid (At.sub HV' (lo := a) (k := L - a) (by omega) hb)
      have HCL := Lib.hid (cloneB_is (by simp; omega) HS.out)
      have HE : Hid ((l.drop a).take (L - a) = (l.drop a).take n) := Lib.hid (by rw [List.take_of_length_le (by simp; omega), List.take_of_length_le (by simp; omega)])
      clear hc hb hL HV' hs
      go_enter Tryz.func230, Tryz.ntmps230
      go_wp2_with (go_at_call 109; (with_reducible refine HCL.out.mono ?_); rintro e1 w1 ⟨v1, rfl, ho1, hb1⟩)
      go_ret
      exact ⟨_, rfl, by rw [← HE.out]; exact ho1, hb1⟩
attribute [local go_sem ↓] ld_ino
set_option maxRecDepth 100000 in
set_option maxHeartbeats 1600000 in
theorem readF_is (h : FSt w c x) {i : Nat} (hi : i < 32) {ni : Int} (hni : ni = i + 1) (hk : (x.nd i).k = 1) (hp : ∀ p ∈ (x.nd i).ps, 0 < p ∧ p < 256) (hl : (x.nd i).ps.length ≤ 8) {L : Nat} (hsz : (x.nd i).sz = L) (hL : L ≤ 64 * (x.nd i).ps.length) {a n : Nat} (ha : a ≤ 1000) (hn : n ≤ 512) :
    Calls Tryz.prog 160 #[.pointer (some ⟨c.F, 0, none⟩), .int .i64 ni, .int .i64 a, .int .i64 n] w fun e w' => ∃ v, e = .returned (.tuple #[v, .int .i64 0]) ∧ OB w.heap.size w' v ((((catP x (x.nd i).ps).take L).drop a).take n) ∧ Below w.heap.size w w' := by
  have HFI := Lib.hid (fileF_is h hi hni hk)
  have c4 := h.c4
  obtain ⟨C, hC⟩ := h.nb
  have l1 := hC.ld hi
  have hcm : (x.cap : Int) ≤ 9223372036854775807 := by have := h.cp.2; unfold maxLen at this; omega
  have y1 : IntKind.i64.wrap (ni - 1) = i := by rw [IntWalk.i64_in _ (by omega)]; omega
  have i3 : (i : Int) < 32 := by omega
  have i0 : (0 : Int) ≤ i := by omega
  have a0 : ¬ (a : Int) < 0 := by omega
  have n0 : ¬ (n : Int) < 0 := by omega
  have n1 : ¬ (512 : Int) < n := by omega
  have HBY := Lib.hid (bytesF_is h (h.ps i hi).1.a hp hl hsz hL)
  have HLC : Hid (((catP x (x.nd i).ps).take L).length ≤ 512) := Lib.hid (by rw [List.length_take, catP_len h _ hp]; omega)
  have HN := Lib.hid (And.intro ha hn)
  generalize (catP x (x.nd i).ps).take L = bs at *
  generalize ndA (x.nd i) = A at *
  clear h hC hk hp hl hsz hL hn hni ha
  go_enter Tryz.func160, Tryz.ntmps160
  go_wp2_with (first | (go_at_call 130; (with_reducible refine HFI.out.mono ?_); rintro e0 w0 ⟨rfl, rfl⟩) | (go_at_call 231; (with_reducible refine HBY.out.mono ?_); rintro e2 w2 ⟨v2, rfl, ho2, hb2⟩; have HPC := Lib.hid (piece_is (ho2.at) HLC.out (a := a) (n := n) HN.out.1 (by have := HN.out.2; omega)); have HB2 := Lib.hid hb2; clear ho2 hb2) | (go_at_call 230; (with_reducible refine HPC.out.mono ?_); rintro e3 w3 ⟨v3, rfl, ho3, hb3⟩))
  go_ret2
  exact ⟨_, rfl, ho3.base HB2.out.size, HB2.out.trans (hb3.mono HB2.out.size)⟩
end
end Go.Proofs.YtegpngjmplcfpaaGreatDoor
namespace Go.Proofs.YtegpngjmplcfpaaGreatDoor
open Go.RowKit Go.Maps
set_option linter.unusedVariables false
set_option linter.unusedSimpArgs false
theorem results_tct {fn : Func} {t p u : Tmp} {ty : TypeId} (h : fn.results = #[.tmp t, .cell p ty, .tmp u]) (tmps : Array Value) (P : Program) (w : World) :
    (results fn tmps).run P w = ((asAddr (tmps.getD p undef)).run P w).andThen fun a w1 => ((loadVar ty a).run P w1).andThen fun v w2 => .ok (.tuple #[tmps.getD t undef, v, tmps.getD u undef]) w2 := by
  unfold results
  rw [h]
  simp
theorem bd_sta (ps : Array (Nat × Value)) : Instr.build 33 ps = bdR 33 ps := rfl
theorem bd_sta_run (w : World) : (bdR 33 #[]).run Tryz.prog w = .ok (.agg (stA nd0)) w := by kernel_rfl
theorem Row.stS' {w : World} {b : Nat} {n n' : Nd} (h : Row w b 33 (stA n)) : (stR 33 (.pointer (some ⟨b, 0, none⟩)) (.agg (stA n'))).run Tryz.prog w = .ok () (w.setRow b (stA n')) := h.st0 rfl (by kernel_rfl) (by simp [stA, Value.oneCell'])
theorem Row.ldVS {w : World} {b : Nat} {n : Nd} (h : Row w b 33 (stA n)) : (loadVar 33 ⟨b, 0, none⟩).run Tryz.prog w = .ok (.agg (stA n)) w := h.ldV Tryz.underlying33 rfl (by unfold stA; kernel_rfl)
theorem Row.ldS {w : World} {b : Nat} {n : Nd} (h : Row w b 33 (stA n)) : (ldR 33 (.pointer (some ⟨b, 0, none⟩))).run Tryz.prog w = .ok (.agg (stA n)) w := h.ld0 Tryz.underlying33 rfl (by unfold stA; kernel_rfl)
section
variable {w : World} {k : KC} {s : KSt} {fc : FC} {x : FM} {p : Nat} {U K : Int} {a : Option Addr} {cap gc cc : Nat}
attribute [local go_sem ↓] ld_sta st_sta ld_crd bd_sta
attribute [local go_sem] stS_new
set_option maxRecDepth 100000 in
set_option maxHeartbeats 800000 in
theorem kwalkN_is (h : KF w k s fc x) (q : Who w s p U K a cap gc cc) (hk : (x.nd 0).k = 2) (hp : (x.nd 0).ps = []) (hs : (x.nd 0).sz = 0)
    (hM : ∀ w, Calls Tryz.prog 171 #[.agg (stA (x.nd 0)), .agg (crA U K a cap), .int .i64 4] w fun e w' => e = .returned (.tuple #[.bool true, .int .i64 0]) ∧ Below w.heap.size w w') :
    Calls Tryz.prog 89 #[.pointer (some ⟨k.K, 0, none⟩), .int .i64 p, .string ⟨#[102]⟩] w fun e w' => e = .returned (.tuple #[.slice none 0 0, .agg (stA nd0), .int .i64 4]) ∧ Below w.heap.size w w' := by
  have HB0 := Lib.hid (Go.Joins.below_alloc1 w (.cells #[.int .i64 0, .int .i64 0, .int .i64 0, .int .i64 0, .int .i64 0, .int .i64 0] 33))
  have HR0 : Hid (Row (w.alloc (.cells #[.int .i64 0, .int .i64 0, .int .i64 0, .int .i64 0, .int .i64 0, .int .i64 0] 33)) w.heap.size 33 (stA nd0)) := Lib.hid (row_new w 33 (stA nd0))
  have HPW := Lib.hid (fun wx (hb : Below w.heap.size w wx) => pWalkN_is (h.keep hb).fs hk hp hs q.hU q.hK q.hc (q.keep hb).g q.c1 q.c2 hM)
  have HL : Hid (∀ wx, Below w.heap.size w wx → (wx.cell? ⟨k.K, 2, none⟩ = some (.pointer (some ⟨fc.F, 0, none⟩)) ∧ wx.cell? ⟨k.K, 8 + p * 38 + 18, none⟩ = some (.slice none 0 0) ∧ (ldR 57 (.pointer (some ⟨k.K, 8 + p * 38 + 11, none⟩))).run Tryz.prog wx = .ok (.agg (crA U K a cap)) wx ∧ wx.cell? ⟨k.K, 8 + p * 38 + 17, none⟩ = some (.slice (some ⟨gc, 0, none⟩) 1 cc))) := Lib.hid (fun wx hb => ⟨(h.keep hb).fsp, by rw [(h.keep hb).kt.kr.cell (by have := q.p16; omega), q.mt], (h.keep hb).ldcr (q.keep hb), by rw [(h.keep hb).kt.kr.cell (by have := q.p16; omega), q.wd]⟩)
  have i17 : (p : Int) < 17 := by have := q.p16; omega
  clear h q hM hk hp hs
  go_enter Tryz.func89, Tryz.ntmps89
  go_upto_region 2 with fail
  generalize w.alloc (.cells #[.int .i64 0, .int .i64 0, .int .i64 0, .int .i64 0, .int .i64 0, .int .i64 0] 33) = w0 at *
  go_region_held3 (fun wx => wx.cell? ⟨k.K, 2, none⟩ = some (.pointer (some ⟨fc.F, 0, none⟩)) ∧ wx.cell? ⟨k.K, 8 + p * 38 + 18, none⟩ = some (.slice none 0 0) ∧ (ldR 57 (.pointer (some ⟨k.K, 8 + p * 38 + 11, none⟩))).run Tryz.prog wx = .ok (.agg (crA U K a cap)) wx ∧ wx.cell? ⟨k.K, 8 + p * 38 + 17, none⟩ = some (.slice (some ⟨gc, 0, none⟩) 1 cc)) (first | (with_reducible exact HL.out _ HB0.out) | (with_reducible exact HL.out _ HB0.out.drew) | (with_reducible exact HL.out _ HB1.out) | fail)
          (first | (go_at_call 170; (with_reducible refine (HPW.out _ HB0.out.drew).mono ?_); rintro e1 w1 ⟨rfl, hb1⟩; have HB1 := Lib.hid (HB0.out.drew.trans (hb1.mono HB0.out.drew.size)); have HR1 := Lib.hid (HR0.out.drew.keep hb1); clear hb1) | fail)
  have st1 := Row.stS' (n' := nd0) HR1.out
  have lv1 := (HR1.out.setRow (stA nd0)).ldVS
  have hbd := bd_sta_run
  clear HPW HL
  generalize hZ : stA nd0 = Z at hbd st1 lv1 ⊢
  have HZ := Lib.hid hZ
  clear hZ
  go_wp2_with fail
  exact bodyPost_ret (v := .tuple #[.slice none 0 0, .agg Z, .int .i64 4]) (by rw [results_tct rfl]; simp [asAddr, Result.andThen, lv1]) rfl ⟨by rw [HZ.out], HB1.out.trans ((Upd.setRow (S := fun j => j = w.heap.size) w1 Z rfl).toBelow HB1.out.size (fun k hk e => by have e : k = w.heap.size := e; omega))⟩
set_option maxRecDepth 100000 in
set_option maxHeartbeats 1000000 in
theorem kwalkF_is (h : KF w k s fc x) (q : Who w s p U K a cap gc cc) (hk : (x.nd 0).k = 2) {q0 : Nat} (hp : (x.nd 0).ps = [(q0 : Int)]) (hp0 : q0 ≠ 0) (hp1 : q0 < 256) (hs : (x.nd 0).sz = 16) (hf : (fsec x q0).take 16 = entL) (hk1 : (x.nd 1).k = 1)
    (hM : ∀ w, Calls Tryz.prog 171 #[.agg (stA (x.nd 0)), .agg (crA U K a cap), .int .i64 4] w fun e w' => e = .returned (.tuple #[.bool true, .int .i64 0]) ∧ Below w.heap.size w w') :
    Calls Tryz.prog 89 #[.pointer (some ⟨k.K, 0, none⟩), .int .i64 p, .string ⟨#[102]⟩] w fun e w' => ∃ g cg, e = .returned (.tuple #[.slice (some ⟨g, 0, none⟩) 2 cg, .agg (stA (x.nd 1)), .int .i64 0]) ∧ w'.cell? ⟨g, 1, none⟩ = some (.int .i64 2) ∧ 2 ≤ cg ∧ cg ≤ maxLen ∧ Below w.heap.size w w' := by
  have HB0 := Lib.hid (Go.Joins.below_alloc1 w (.cells #[.int .i64 0, .int .i64 0, .int .i64 0, .int .i64 0, .int .i64 0, .int .i64 0] 33))
  have HR0 : Hid (Row (w.alloc (.cells #[.int .i64 0, .int .i64 0, .int .i64 0, .int .i64 0, .int .i64 0, .int .i64 0] 33)) w.heap.size 33 (stA nd0)) := Lib.hid (row_new w 33 (stA nd0))
  have HPW := Lib.hid (fun wx (hb : Below w.heap.size w wx) => pWalkF_is (h.keep hb).fs hk hp hp0 hp1 hs hf hk1 q.hU q.hK q.hc (q.keep hb).g q.c1 q.c2 hM)
  have HL : Hid (∀ wx, Below w.heap.size w wx → (wx.cell? ⟨k.K, 2, none⟩ = some (.pointer (some ⟨fc.F, 0, none⟩)) ∧ wx.cell? ⟨k.K, 8 + p * 38 + 18, none⟩ = some (.slice none 0 0) ∧ (ldR 57 (.pointer (some ⟨k.K, 8 + p * 38 + 11, none⟩))).run Tryz.prog wx = .ok (.agg (crA U K a cap)) wx ∧ wx.cell? ⟨k.K, 8 + p * 38 + 17, none⟩ = some (.slice (some ⟨gc, 0, none⟩) 1 cc))) := Lib.hid (fun wx hb => ⟨(h.keep hb).fsp, by rw [(h.keep hb).kt.kr.cell (by have := q.p16; omega), q.mt], (h.keep hb).ldcr (q.keep hb), by rw [(h.keep hb).kt.kr.cell (by have := q.p16; omega), q.wd]⟩)
  have HST := Lib.hid (fun wx (hb : Below w.heap.size w wx) => statF_is (h.keep hb).fs (i := 1) (by decide) (n := 2) rfl (by rw [hk1]; decide))
  have i17 : (p : Int) < 17 := by have := q.p16; omega
  clear h q hM hk hp hs hp0 hp1 hf hk1
  generalize x.nd 1 = nd at *
  go_enter Tryz.func89, Tryz.ntmps89
  go_upto_region 2 with fail
  generalize w.alloc (.cells #[.int .i64 0, .int .i64 0, .int .i64 0, .int .i64 0, .int .i64 0, .int .i64 0] 33) = w0 at *
  go_region_held3 (fun wx => wx.cell? ⟨k.K, 2, none⟩ = some (.pointer (some ⟨fc.F, 0, none⟩)) ∧ wx.cell? ⟨k.K, 8 + p * 38 + 18, none⟩ = some (.slice none 0 0) ∧ (ldR 57 (.pointer (some ⟨k.K, 8 + p * 38 + 11, none⟩))).run Tryz.prog wx = .ok (.agg (crA U K a cap)) wx ∧ wx.cell? ⟨k.K, 8 + p * 38 + 17, none⟩ = some (.slice (some ⟨gc, 0, none⟩) 1 cc)) (first | (with_reducible exact HL.out _ HB0.out) | (with_reducible exact HL.out _ HB0.out.drew) | (with_reducible exact HL.out _ HB1.out) | fail)
          (first | (go_at_call 170; (with_reducible refine (HPW.out _ HB0.out.drew).mono ?_); rintro e1 w1 ⟨g1, c1, rfl, y1, q1, q2, hb1⟩; have HB1 := Lib.hid (HB0.out.drew.trans (hb1.mono HB0.out.drew.size)); have HR1 := Lib.hid (HR0.out.drew.keep hb1); clear hb1) | fail)
  have hmx : (c1 : Int) ≤ 9223372036854775807 := by unfold maxLen at q2; omega
  have hm2 : (2 : Int) ≤ (c1 : Int) := by omega
  have HQ := Lib.hid (And.intro q1 q2)
  have hg1 : g1 < w1.heap.size := World.block_lt_of_cell? w1 _ y1
  have a2 := (HL.out _ HB1.out).1
  have HZ2 := Lib.hid (fun k => (row_new w1 33 (#[.int .i64 0, .int .i64 0, .int .i64 0, .int .i64 0, .int .i64 0, .int .i64 0] : Array Value)).keep (below_drewN (Below.refl _ _) k))
  have HBO : Hid (∀ wx, Below w1.heap.size w1 wx → (Below w1.heap.size w1 wx ∧ wx.cell? ⟨k.K, 2, none⟩ = some (.pointer (some ⟨fc.F, 0, none⟩)) ∧ wx.cell? ⟨g1, 1, none⟩ = some (.int .i64 2))) := Lib.hid (fun wx hb => ⟨hb, (HL.out _ (HB1.out.trans (hb.mono HB1.out.size))).1, (hb.cell (p := ⟨g1, 1, none⟩) hg1).trans y1⟩)
  have HS1 : Hid (∀ wx, Below w1.heap.size w1 wx → Calls Tryz.prog 162 #[.pointer (some ⟨fc.F, 0, none⟩), .int .i64 2] wx fun e w' => e = .returned (.tuple #[.agg (stA nd), .int .i64 0]) ∧ Below wx.heap.size wx w') := Lib.hid (fun wx hb => HST.out _ (HB1.out.trans (hb.mono HB1.out.size)))
  have HZ3 := Lib.hid (fun (wx : World) (hb : Below (w1.drew.alloc (.cells #[.int .i64 0, .int .i64 0, .int .i64 0, .int .i64 0, .int .i64 0, .int .i64 0] 33)).heap.size (w1.drew.alloc (.cells #[.int .i64 0, .int .i64 0, .int .i64 0, .int .i64 0, .int .i64 0, .int .i64 0] 33)) wx) => (show Row wx w1.heap.size 33 (#[.int .i64 0, .int .i64 0, .int .i64 0, .int .i64 0, .int .i64 0, .int .i64 0] : Array Value) from (row_new w1.drew 33 (#[.int .i64 0, .int .i64 0, .int .i64 0, .int .i64 0, .int .i64 0, .int .i64 0] : Array Value)).keep hb))
  have HZ4 := Lib.hid (fun (wx : World) (hb : Below (w1.alloc (.cells #[.int .i64 0, .int .i64 0, .int .i64 0, .int .i64 0, .int .i64 0, .int .i64 0] 33)).drew.heap.size (w1.alloc (.cells #[.int .i64 0, .int .i64 0, .int .i64 0, .int .i64 0, .int .i64 0, .int .i64 0] 33)).drew wx) => (row_new w1 33 (#[.int .i64 0, .int .i64 0, .int .i64 0, .int .i64 0, .int .i64 0, .int .i64 0] : Array Value)).drew.keep hb)
  have HZ5 := Lib.hid (fun (wx : World) (hb : Below (w1.alloc (.cells #[.int .i64 0, .int .i64 0, .int .i64 0, .int .i64 0, .int .i64 0, .int .i64 0] 33)).heap.size (w1.alloc (.cells #[.int .i64 0, .int .i64 0, .int .i64 0, .int .i64 0, .int .i64 0, .int .i64 0] 33)) wx) => (row_new w1 33 (#[.int .i64 0, .int .i64 0, .int .i64 0, .int .i64 0, .int .i64 0, .int .i64 0] : Array Value)).keep hb)
  clear HPW HL HST y1 q1 q2 hg1
  have yw : IntKind.i64.wrap 1 = 1 := by decide
  go_upto_region 5 with fail
  go_cut [11, 12] (fun s3 s4 wx => s3 = .int .i64 0 ∧ ∃ b9, s4 = .pointer (some ⟨b9, 0, none⟩) ∧ w1.heap.size ≤ b9 ∧ Below w1.heap.size w1 wx ∧ Row wx b9 33 (stA nd) ∧ wx.cell? ⟨g1, 1, none⟩ = some (.int .i64 2))
  case first =>
    go_region_held3 (fun wx => Below w1.heap.size w1 wx ∧ wx.cell? ⟨k.K, 2, none⟩ = some (.pointer (some ⟨fc.F, 0, none⟩)) ∧ wx.cell? ⟨g1, 1, none⟩ = some (.int .i64 2)) (first | assumption | (with_reducible exact HBO.out _ (Below.refl _ _)) | (with_reducible exact HBO.out _ (Below.refl _ _).drew) | (with_reducible exact HBO.out _ (below_drewN (And.left ‹_›) _)) | (with_reducible exact HBO.out _ (below_setRow (And.left ‹_›) (Nat.le_refl _) _)) | (with_reducible exact HBO.out _ (Below.alloc (And.left ‹_›) (Below.size (And.left ‹_›)) _)) | go_keep)
      (first | (go_at_call 162; refine (HS1.out _ (‹Below w1.heap.size w1 _ ∧ _›).1).mono ?_; rintro e9 w9 ⟨rfl, hb9⟩; have hS := HBO.out _ ((‹Below w1.heap.size w1 _ ∧ _›).1.trans (hb9.mono (‹Below w1.heap.size w1 _ ∧ _›).1.size)); first | have hst := (HZ3.out _ hb9).stS nd | have hst := (HZ4.out _ hb9).stS nd | have hst := (HZ5.out _ hb9).stS nd | skip))
    all_goals go_wp2
    all_goals go_meet
    all_goals first
      | exact ⟨rfl, _, rfl, hS.1.size, hS.1.alloc hS.1.size _, row_new _ _ _, (HBO.out _ (hS.1.alloc hS.1.size _)).2.2⟩
      | exact ⟨rfl, _, rfl, Nat.le_refl _, below_setRow hS.1 (Nat.le_refl _) _, ((HZ3.out _ hb9)).setRow _, (HBO.out _ (below_setRow hS.1 (Nat.le_refl _) _)).2.2⟩
      | exact ⟨rfl, _, rfl, Nat.le_refl _, below_setRow hS.1 (Nat.le_refl _) _, ((HZ4.out _ hb9)).setRow _, (HBO.out _ (below_setRow hS.1 (Nat.le_refl _) _)).2.2⟩
      | exact ⟨rfl, _, rfl, Nat.le_refl _, below_setRow hS.1 (Nat.le_refl _) _, ((HZ5.out _ hb9)).setRow _, (HBO.out _ (below_setRow hS.1 (Nat.le_refl _) _)).2.2⟩
  case rest =>
    obtain ⟨rfl, b9, rfl, hbl, hbc, hr9, y1⟩ := hcut
    have l9 := hr9.drew.ldS
    have HBC := Lib.hid (HB1.out.trans (hbc.drew.mono HB1.out.size))
    have hlt : w.heap.size < w1.heap.size := HR1.out.lt
    have hr0 := (HR1.out.keep hbc).drew
    have st9 := Row.stS' (n' := nd) hr0
    have lv9 := (hr0.setRow (stA nd)).ldVS
    have hne : g1 ≠ w.heap.size := fun e => by
      have z : wc.cell? ⟨w.heap.size, 1, none⟩ = some (.int .i64 0) := (HR1.out.keep hbc).cell 1
      rw [← e, y1] at z
      injection z with z
      injection z with _ z
      exact absurd z (by decide)
    have HG := Lib.hid (show (wc.drew.setRow w.heap.size (stA nd)).cell? ⟨g1, 1, none⟩ = some (.int .i64 2) from ((Upd.setRow (S := fun j => j = w.heap.size) wc.drew (stA nd) rfl).cell (World.block_lt_of_cell? wc _ y1) hne).trans y1)
    clear hbl hbc hr9 y1 hr0 hne HZ2 HZ3 HZ4 HZ5 HBO HS1
    generalize hZ : stA nd = Z at l9 st9 lv9 HG ⊢
    have HZ := Lib.hid hZ
    clear hZ
    go_upto_region 6 with fail
    go_region
    all_goals
      go_wp2_with fail
      exact bodyPost_ret (v := .tuple #[.slice (some ⟨g1, 0, none⟩) 2 c1, .agg Z, .int .i64 0]) (by rw [results_tct rfl]; simp [asAddr, Result.andThen, lv9]) rfl ⟨g1, c1, by rw [HZ.out], HG.out, HQ.out.1, HQ.out.2, HBC.out.trans ((Upd.setRow (S := fun j => j = w.heap.size) wc.drew Z rfl).toBelow HBC.out.size (fun k hk e => by have e : k = w.heap.size := e; omega))⟩
end
end Go.Proofs.YtegpngjmplcfpaaGreatDoor
