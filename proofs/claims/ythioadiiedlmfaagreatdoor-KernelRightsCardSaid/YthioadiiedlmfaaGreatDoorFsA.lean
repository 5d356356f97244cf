/- Walk of kernel.exit. A kernel that has begun, as one state. Maps with int keys, by a code of their elements: as functions. The maps of package fs. -/
import Derived.Test.YthioadiiedlmfaaGreatDoorKerV
import Derived.Test.YthioadiiedlmfaaGreatDoorStarted
import Derived.Test.YthioadiiedlmfaaGreatDoorBegin
import Derived.Test.YthioadiiedlmfaaGreatDoorProcFork
namespace Go.Proofs.YthioadiiedlmfaaGreatDoor
open Go.RowKit
set_option linter.unusedVariables false
set_option linter.unusedSimpArgs false
theorem exitP_is {w : World} {b p : Nat} {c : Int} {t : ProcLaw.T} (h : ProcLaw.TabAt w b t) (hp : ProcLaw.alive t p) (p1 : p ≠ 1) :
    Calls Tryz.prog 69 #[.pointer (some ⟨b, 0, none⟩), .int .i64 p, .int .i64 c] w fun e w' => e = .returned (.tuple #[.int .i64 (ProcLaw.ended t p (bits .and .i64 c 255) p).par, .int .i64 0]) ∧ Upd (fun k => k = b) w w' ∧ ProcLaw.TabAt w' b (ProcLaw.ended t p (bits .and .i64 c 255)) := by
  refine (ProcLaw.exit_is p c h).mono ?_
  rintro e w' ⟨r, en, t', rfl, hu, ht, ⟨_, _, q⟩ | ⟨e0, q, hq, _, _, ht', hr⟩⟩
  · rcases q with q | q
    · exact absurd (ProcLaw.livR_alive hp) q
    · exact absurd (by omega) p1
  · have : q = p := by omega
    subst this
    subst ht'
    rw [hr, e0]
    exact ⟨rfl, hu, ht⟩
theorem MS.dropped_mB {m m' : MS} {s : Int} {f : Int → Option (Nat × Int)} {left : Lit → Bool} (hpv : m'.pv.ownBlock = m.pv.ownBlock) (hpl : m'.pl = kept m f left) {M so j : Nat} (hj : mB M so (m.dropped m' s) j) : mB M so m j := by
  rcases hj with q | q | q | ⟨x, q⟩ | q
  · exact .inl q
  · exact .inr (.inl q)
  · exact .inr (.inr (.inl (by rw [← hpv]; exact q)))
  · refine .inr (.inr (.inr (.inl ⟨x, ?_⟩)))
    unfold MS.dropped at q
    simp only at q
    split at q
    · cases q
    · exact q
  · refine .inr (.inr (.inr (.inr ?_)))
    have q : j ∈ m'.pl := q
    rw [hpl] at q
    exact (List.mem_filter.1 q).1
/-- the kernel while it serves: from one state to another -/
structure KG (s0 : KSt) (k : KC) (w w1 : World) (s : KSt) : Prop where
  kt : KT w1 k s
  up : Upd (fun j => s0.tag j ≠ 0) w w1
  far : ∀ j, s.tag j ≠ 0 → s0.tag j ≠ 0 ∨ w.heap.size ≤ j
section
variable {w w1 w2 : World} {k : KC} {s0 s s' : KSt}
theorem KT.start (h : KT w k s) : KG s k w w s := ⟨h, Upd.refl _ _, fun _ e => .inl e⟩
theorem KG.step {S : Nat → Prop} (h : KG s0 k w w1 s) (hk : KT w2 k s') (hu : Upd S w1 w2) (hS : ∀ j, S j → s.tag j ≠ 0) (hf : ∀ j, s'.tag j ≠ 0 → s.tag j ≠ 0 ∨ w1.heap.size ≤ j) : KG s0 k w w2 s' :=
  ⟨hk, h.up.trans' hu (fun i hi q => (h.far i (hS i q)).elim id (fun e => by omega)), fun j hj => (hf j hj).elim (h.far j) (fun e => .inr (Nat.le_trans h.up.size e))⟩
theorem KG.keep (h : KG s0 k w w1 s) (hb : Below w1.heap.size w1 w2) : KG s0 k w w2 s := h.step (S := fun _ => False) (h.kt.keep hb) (Upd.below hb) (fun _ e => e.elim) (fun _ e => .inl e)
end
def tskZ : Array Value := #[.int .i64 0, .int .u32 0, .int .u32 0, .int .u32 0, .int .u32 0, .int .u32 0, .int .u32 0, .int .u32 0, .int .u32 0, .int .u32 0, .int .i64 0, .int .i64 0, .int .i64 0, .slice none 0 0, .int .i64 0, .int .i64 0, .int .i64 0, .slice none 0 0, .slice none 0 0, .int .i64 0, .int .i64 0, .int .i64 0, .int .i64 0, .int .i64 0, .int .i64 0, .int .i64 0, .int .i64 0, .int .i64 0, .int .i64 0, .int .i64 0, .int .i64 0, .int .i64 0, .int .i64 0, .int .i64 0, .int .i64 0, .int .i64 0, .int .i64 0, .bool false]
theorem bd_tsk (ps : Array (Nat × Value)) : Instr.build 59 ps = bdR 59 ps := rfl
theorem bd_tsk0 (w : World) : (bdR 59 #[]).run Tryz.prog w = .ok (.agg tskZ) w := by kernel_rfl
theorem tskZ_size : tskZ.size = 38 := by kernel_rfl
theorem tskZ_one : tskZ.all (·.oneCell') = true := by kernel_rfl
section
variable {w0 w : World} {k : KC} {s : KSt} {p q i b : Nat} {s1 code : Int} {T : KSt → Int → Int → Int → Prop}
attribute [local go_sem ↓] st_tsk bd_tsk
set_option maxRecDepth 100000 in
set_option maxHeartbeats 1000000 in
theorem kexit_is (h : KT w0 k s) (hp : ProcLaw.alive s.t p) (p1 : p ≠ 1) (hsp : s.c (8 + p * 38) = .int .i64 s1) (hs : s.m.S s1 = some b) (hwf : (Lit.int .i64 s1).wf = true) (hlo : Lone (s.m.F b)) (hpl : ∀ k g r, s.m.F b k = some (g, r) → g ∈ s.m.pl ∧ s.m.u g = 1) (hll : s.m.pl.length ≤ 100000)
    (hfd : ∀ j, j < 8 → s.fd (p * 8 + j) = 0) (hid : idG s.l p = some i) (hcw : s.cw p = none)
    (hq : (ProcLaw.ended s.t p (bits .and .i64 code 255) p).par = q) (hqp : q ≠ p) (q1 : 1 ≤ q) (q16 : q ≤ 16) (hqs : (ProcLaw.ended s.t p (bits .and .i64 code 255) q).st = 1) (hql : s.c (8 + q * 38 + 37) = .bool false) (hqg : ∀ j, j < 18 → s.c (8 + q * 38 + 19 + j) = .int .i64 0)
    (hT : ∀ m' left (c' : Nat → Value) tag' ad' cap', (∀ kl, left kl = false) → m'.pl = kept s.m (s.m.F b) left → m'.nS = s.m.nS → m'.F = s.m.F → m'.nF = s.m.nF → m'.h = s.m.h → (∀ g, g ∈ m'.pl → m'.u g = s.m.u g) → (∀ j, (j < 8 + p * 38 ∨ 8 + p * 38 + 38 ≤ j) → c' j = s.c j) → T { tag := tag', c := c', t := ProcLaw.ended s.t p (bits .and .i64 code 255), fs := s.fs, fd := s.fd, ad := ad', cap := cap', l := leaveL s.l i 1, m := s.m.dropped m' s1, cw := s.cw } 0 0 0) :
    SpecE w0 (KOut w0.heap.size k s.tag T) 34 #[.pointer (some ⟨k.K, 0, none⟩), .int .i64 p, .int .i64 code] := by
  intro w h0
  obtain ⟨pp1, pp16, pst⟩ := hp
  have hk := h.keep h0
  have i17 : (p : Int) < 17 := by omega
  have HEX := Lib.hid (exitP_is (c := code) hk.pr ⟨pp1, pp16, pst⟩ p1)
  rw [hq] at HEX
  have q7 : w.cell? ⟨k.K, 7, none⟩ = some (.pointer (some ⟨k.Pr, 0, none⟩)) := by rw [hk.kr.cell (by decide), hk.c7]
  have HS := Lib.hid hk.start
  have HH := Lib.hid h
  have H0 := Lib.hid h0
  have HM := Lib.hid (And.intro hs (And.intro hwf (And.intro hlo (And.intro hpl hll))))
  have HFD := Lib.hid (And.intro hfd (And.intro hid hcw))
  have HQ := Lib.hid (And.intro hqp (And.intro q1 (And.intro q16 (And.intro hqs (And.intro hql hqg)))))
  have HSP := Lib.hid hsp
  have HT := Lib.hid hT
  clear h h0 hk hs hwf hlo hpl hll hfd hid hcw hq hqp hqs hql hqg hsp hT pst q1 q16
  go_enter Tryz.func34, Tryz.ntmps34
  go_upto_region 5 with (first | (go_at_call 69; refine HEX.out.mono ?_; rintro e1 w1 ⟨rfl, hu1, ht1⟩; have hk1 := HS.out.kt.procs ht1 hu1; have HS1 := Lib.hid (HS.out.step hk1 hu1 (fun j e => by rw [e, HS.out.kt.tPr]; decide) (fun j e => .inl e)); have q6 : w1.cell? ⟨k.K, 6, none⟩ = some (.pointer (some ⟨k.Fi, 0, none⟩)) := (by rw [HS1.out.kt.kr.cell (by decide), HS1.out.kt.c6]); have HDR := Lib.hid (OpenLaw.dropE_is HS1.out.kt.fi pp1 pp16 HFD.out.1); clear hk1 hu1 ht1) | (go_at_call 70; refine HDR.out.mono ?_; rintro e2 w2 ⟨rfl, hb2⟩; have HS2 := Lib.hid (HS1.out.keep hb2); clear hb2))
  clear q7 q6 HEX HDR HS1 HS
  go_wp2_with fail
  refine wp_loop_rounds 1 ?_
  rw [rounds_succ]
  go_upto_region 10 with fail
  have HDM := Lib.hid (dropG_is (HS2.out.kt.me.keep (Below.refl _ _).drew) HM.out.1 HM.out.2.1 HM.out.2.2.1 HM.out.2.2.2.1 HM.out.2.2.2.2)
  have q1 : w2.cell? ⟨k.K, 1, none⟩ = some (.pointer (some ⟨k.M, 0, none⟩)) := by rw [HS2.out.kt.kr.cell (by decide), HS2.out.kt.c1]
  have q8 : w2.cell? ⟨k.K, 8 + p * 38, none⟩ = some (.int .i64 s1) := by rw [HS2.out.kt.kr.cell (by omega), HSP.out]
  go_region_held3 (fun wx => wx.cell? ⟨k.K, 1, none⟩ = some (.pointer (some ⟨k.M, 0, none⟩)) ∧ wx.cell? ⟨k.K, 8 + p * 38, none⟩ = some (.int .i64 s1)) (first | exact ⟨q1, q8⟩ | exact hS3 | assumption)
    ((go_at_call 72; (with_reducible refine HDM.out.mono ?_); rintro e3 w3 ⟨rfl, m', left, hleft, _, hm3, hpv, hpl3, hnS, hF, hnF, hd, hh, hu', hu3⟩; have hk3 := (HS2.out.kt.keep (Below.refl _ _).drew).mem hm3 hu3 (fun j e => .inl (MS.dropped_mB hpv hpl3 e)); have HS3 := Lib.hid (HS2.out.step hk3 ((Upd.drew w2).trans hu3) (fun j e => by rw [HS2.out.kt.tM j e]; decide) (fun j e => tg_ne e)); have hS3 := And.intro ((HS3.out.kt.kr.cell (j := 1) (by decide)).trans (congrArg some HS3.out.kt.c1)) ((HS3.out.kt.kr.cell (j := 8 + p * 38) (by omega)).trans (congrArg some HSP.out)); have HM3 := Lib.hid (And.intro hleft (And.intro hpl3 (And.intro hnS (And.intro hF (And.intro hnF (And.intro hh hu')))))); clear hk3 hm3 hpv hu3 hleft hpl3 hnS hF hnF hd hh hu'))
  clear q1 q8 hS3 HDM HM
  have q4 : w3.cell? ⟨k.K, 4, none⟩ = some (.pointer (some ⟨k.R, 0, none⟩)) := by rw [HS3.out.kt.kr.cell (by decide), HS3.out.kt.c4]
  have HLV := Lib.hid (leaveG_is HS3.out.kt.ru HFD.out.2.1 (by decide))
  go_upto_region 13 with (first | (go_at_call 73; refine HLV.out.mono ?_; rintro e4 w4 ⟨rfl, ⟨T4, cp4, hr4, hT4⟩, hu4⟩; have hk4 := HS3.out.kt.run hr4 hu4 (fun j e => hT4.elim (fun q => .inl (by rw [q]; exact e)) (fun q => e.elim (fun e => .inl (.inl e)) (fun ⟨a, e1, e2⟩ => .inr (by injection e1 with e1; rw [e2, ← e1]; exact q)))); have HS4 := Lib.hid (HS3.out.step hk4 hu4 (fun j e => by rw [HS3.out.kt.tR j e]; decide) (fun j e => tg_ne e)); have q5 : w4.cell? ⟨k.K, 5, none⟩ = some (.pointer (some ⟨k.Wh, 0, none⟩)) := (by rw [HS4.out.kt.kr.cell (by decide), HS4.out.kt.c5]); have HWO := Lib.hid (wout0_is HS4.out.kt.wh p); clear hk4 hr4 hu4 hT4) | (go_at_call 74; refine HWO.out.mono ?_; rintro e5 w5 ⟨rfl, hb5⟩; have HS5 := Lib.hid (HS4.out.keep hb5); clear hb5))
  clear q4 q5 HLV HWO HS4 HS3
  have hbd := bd_tsk0
  have hst := HS5.out.kt.kr.stT (o := 8 + p * 38) (by omega) tskZ_size tskZ_one
  have HKP := Lib.hid (HS5.out.kt.kr.putT (C := tskZ) (o := 8 + p * 38) (by omega) tskZ_size)
  have HUP : Hid (Upd (fun j => j = k.K) w5 (w5.setRow k.K (putA (kerA s.c) (8 + p * 38) tskZ.toList))) := Lib.hid (Upd.setRow _ _ rfl)
  generalize w5.setRow k.K (putA (kerA s.c) (8 + p * 38) tskZ.toList) = w6 at *
  go_upto_region 14 with fail
  have HC' : Hid (∃ c', c' = fun j => if 8 + p * 38 ≤ j ∧ j < 8 + p * 38 + 38 then (tskZ[j - (8 + p * 38)]?).getD undef else s.c j) := Lib.hid ⟨_, rfl⟩
  obtain ⟨c', hc'⟩ := HC'.out
  rw [← hc'] at HKP
  have HCO : Hid (∀ j, (j < 8 + p * 38 ∨ 8 + p * 38 + 38 ≤ j) → c' j = s.c j) := Lib.hid fun j hj => by rw [hc']; exact if_neg (by omega)
  have HK6 := Lib.hid (HS5.out.kt.cells (c' := c') (cw' := s.cw) (tag' := _) HKP.out HUP.out (fun j hj => HCO.out j (.inl (by omega))) (fun _ _ => rfl) (fun j hj => HS5.out.kt.tz j (Nat.le_trans HUP.out.size hj)) (fun p' b' hb' => by
    obtain ⟨⟨cp, h1⟩, h2, h3, h4⟩ := HS5.out.kt.cw p' b' hb'
    have hne : p' ≠ p := fun e => by rw [e, HFD.out.2.2] at hb'; cases hb'
    have hbK : b' ≠ k.K := fun e => by rw [e, HS5.out.kt.tK] at h4; exact absurd h4 (by decide)
    exact ⟨⟨cp, by rw [HCO.out _ (by omega)]; exact h1⟩, (HUP.out.cell h3 hbK).trans h2, Nat.lt_of_lt_of_le h3 HUP.out.size, h4⟩))
  have HS6 := Lib.hid (HS5.out.step HK6.out HUP.out (fun j e => by rw [e, HS5.out.kt.tK]; decide) (fun j e => .inl e))
  clear hbd hst HKP HUP HS5 HC' hc'
  have HSD := Lib.hid (sendP_is (q := q) HS6.out.kt ⟨HQ.out.2.1, HQ.out.2.2.1, HQ.out.2.2.2.1, (HCO.out _ (by have := HQ.out.1; omega)).trans HQ.out.2.2.2.2.1, fun j hj => (HCO.out _ (by have := HQ.out.1; omega)).trans (HQ.out.2.2.2.2.2 j hj)⟩)
  go_wp2_with (go_at_call 75; refine HSD.out.mono ?_; rintro e7 w7 ⟨rfl, hk7, hu7⟩; have HS7 := Lib.hid (HS6.out.step hk7 hu7 (fun j e => by rw [e, HS6.out.kt.tK]; decide) (fun j e => .inl e)); clear hk7 hu7)
  go_ret
  refine ⟨0, rfl, HS7.out.up.mono (fun j _ e => HH.out.lt e), _, 0, 0, 0, HS7.out.kt, fun j hj => HS7.out.far j hj, rfl, ?_, HS7.out.up⟩
  exact HT.out m' left c' _ _ _ HM3.out.1 HM3.out.2.1 HM3.out.2.2.1 HM3.out.2.2.2.1 HM3.out.2.2.2.2.1 HM3.out.2.2.2.2.2.1 HM3.out.2.2.2.2.2.2 HCO.out
end
end Go.Proofs.YthioadiiedlmfaaGreatDoor
namespace Go.Proofs.YthioadiiedlmfaaGreatDoor
open Go.RowKit
set_option linter.unusedVariables false
set_option linter.unusedSimpArgs false
/-- the memory at first: no page, one space -/
def mS0 (sp : Nat) : MS := ⟨.slice none 0 0, [], 1, fun s => if s = 1 then some sp else none, fun _ => 0, fun _ _ => none, fun _ _ => 0, fun _ => 0, fun _ => false⟩
/-- the state at first -/
def sS0 (c : Nat → Value) (tag : Nat → Nat) (T cc sp wb : Nat) : KSt := ⟨tag, c, ProcLaw.start, fun _ => OpenLaw.f0, fun _ => 0, some ⟨T, 0, none⟩, cc, [⟨1, 0, true, 0⟩], mS0 sp, fun p => if p = 1 then some wb else none⟩
theorem mem0 {w : World} {M so sp : Nat} (mm : Row w M 179 #[.int .i64 64, .int .i64 64, .int .i64 0, .slice none 0 0, .map (some so)]) (om : OMap w so 1 (fun k => if k = 1 then some sp else none)) (im : IMap w sp 0 (fun _ => none)) (h1 : so < M) (h2 : M < sp) : MemG w M so 64 64 (mS0 sp) := by
  refine ⟨mm.cell 0, mm.cell 1, ⟨0, mm.cell 2⟩, mm.cell 3, mm.cell 4, mm.fz, mm.lt, World.ownsRow_nil _ _ _ _, om, fun s b hs => ?_, fun g hg => (by cases hg), by omega, fun b hb => (by cases hb), fun s b hs => ?_, fun g hg => (by cases hg), fun s s' b hs hs' => ?_, List.nodup_nil⟩
  · simp only [mS0] at hs ⊢
    split at hs
    · injection hs with hs; subst hs; exact im
    · cases hs
  · simp only [mS0] at hs ⊢
    split at hs
    · injection hs with hs; subst hs; exact ⟨by omega, by omega, fun e => by cases e⟩
    · cases hs
  · simp only [mS0] at hs hs'
    split at hs
    · split at hs'
      · omega
      · cases hs'
    · cases hs
theorem KS.toKT {w : World} {B K P Wh Fi Pr R M so sp : Nat} {c : Nat → Value} (h : KS w B K P Wh Fi Pr R M so sp c) : ∃ tag T cc wb, KT w ⟨K, Wh, Fi, Pr, R, M, so⟩ (sS0 c tag T cc sp wb) ∧ ∀ j, tag j ≠ 0 → B ≤ j := by
  obtain ⟨T, cc, hru, hspT⟩ := h.ru
  obtain ⟨wb, hc63, hwb, hspw⟩ := h.wd
  obtain ⟨T', C, e, hT⟩ := hru.rows (by decide)
  injection e with e
  injection e with e
  subst e
  have hTw : T ≠ wb := fun e => by
    have r1 := hT.row
    have r2 := hwb
    rw [e] at r1
    have r3 : some (Obj.cells C 186) = some (Obj.cells #[.int .i64 1] 3) := r1.symm.trans r2
    injection r3 with r3
    injection r3 with _ r4
    exact absurd r4 (by decide)
  have b := h.kp.b
  have o := h.or
  refine ⟨fun j => if j = K then 1 else if j = Wh then 2 else if j = Fi then 3 else if j = Pr then 4 else if j = R ∨ j = T then 5 else if j = M ∨ j = so ∨ j = sp then 6 else if j = wb then 7 else 0, T, cc, wb, ⟨h.kr, h.c1, h.c4, h.c5, h.c6, h.c7, h.kp.wh, h.kp.fi, h.kp.pr, hru, mem0 h.mm h.om h.im o.2.2.1 o.2.2.2, fun p q hq => ?_, ?_, ?_, ?_, ?_, fun j hj => ?_, fun j hj => ?_, fun j hj => ?_⟩, fun j hj => ?_⟩
  · simp only [sS0] at hq
    split at hq
    · rename_i hp
      injection hq with hq
      subst hp
      subst hq
      refine ⟨⟨1, hc63⟩, by rw [hwb.cell]; rfl, hwb.lt, ?_⟩
      simp only [sS0]
      rw [if_neg (by omega), if_neg (by omega), if_neg (by omega), if_neg (by omega), if_neg (by omega), if_neg (by omega), if_pos trivial]
    · cases hq
  · simp only [sS0]; rw [if_pos trivial]
  · simp only [sS0]; rw [if_neg (by omega), if_pos trivial]
  · simp only [sS0]; rw [if_neg (by omega), if_neg (by omega), if_pos trivial]
  · simp only [sS0]; rw [if_neg (by omega), if_neg (by omega), if_neg (by omega), if_pos trivial]
  · have hj : j = R ∨ j = T := by
      rcases hj with q | ⟨a, q, q2⟩
      · exact .inl q
      · simp only [sS0] at q
        injection q with q
        subst q
        exact .inr q2
    simp only [sS0]
    rw [if_neg (by omega), if_neg (by omega), if_neg (by omega), if_neg (by omega), if_pos hj]
  · have hj : j = M ∨ j = so ∨ j = sp := by
      rcases hj with q | q | q | ⟨x, q⟩ | q
      · exact .inl q
      · exact .inr (.inl q)
      · cases q
      · simp only [sS0, mS0] at q
        split at q
        · injection q with q; exact .inr (.inr q.symm)
        · cases q
      · cases q
    have n : ¬ (j = R ∨ j = T) := by omega
    simp only [sS0]
    rw [if_neg (by omega), if_neg (by omega), if_neg (by omega), if_neg (by omega), if_neg n, if_pos hj]
  · have l1 := h.kr.lt
    have l2 := hru.lt
    have l3 := hT.row.lt
    have l4 := h.mm.lt
    have l5 := hwb.lt
    obtain ⟨D, ⟨es, ck, hb, _⟩, _⟩ := h.im
    have l6 := (Array.getElem?_eq_some_iff.1 hb).1
    simp only [sS0]
    rw [if_neg (by omega), if_neg (by omega), if_neg (by omega), if_neg (by omega), if_neg (by omega), if_neg (by omega), if_neg (by omega)]
  · rcases Nat.lt_or_ge j B with q | q
    · exfalso
      apply hj
      simp only
      rw [if_neg (by omega), if_neg (by omega), if_neg (by omega), if_neg (by omega), if_neg (by omega), if_neg (by omega), if_neg (by omega)]
    · exact q
end Go.Proofs.YthioadiiedlmfaaGreatDoor
namespace Go.Proofs.YthioadiiedlmfaaGreatDoor
open Go.RowKit Go.Maps
set_option linter.unusedVariables false
set_option linter.unusedSimpArgs false
/-- a code of a map's elements -/
structure MCode (ι : Type) where
  enc : Option ι → Value
  dat : Option ι → DataW Unit
  d0 : dat none = .nil
  ei : ∀ x y, enc x = enc y → x = y
  di : ∀ x y, dat x = dat y → x = y
section
variable {ι : Type} (c : MCode ι)
open Classical in
noncomputable def MCode.red (v : Value) : Option (DataW Unit × List MemPlace) := if h : ∃ x, v = c.enc x then some (c.dat h.choose, []) else none
theorem MCode.red_enc (x : Option ι) : c.red (c.enc x) = some (c.dat x, []) := by
  unfold MCode.red
  have h : ∃ y, c.enc x = c.enc y := ⟨x, rfl⟩
  rw [dif_pos h, ← c.ei _ _ h.choose_spec]
theorem MCode.red_inv {v : Value} {x : Option ι} {ps : List MemPlace} (h : c.red v = some (c.dat x, ps)) : v = c.enc x := by
  unfold MCode.red at h
  split at h
  · rename_i h'
    simp only [Option.some.injEq, Prod.mk.injEq] at h
    rw [← c.di _ _ h.1]; exact h'.choose_spec
  · cases h
theorem MCode.red_some {v : Value} {y : DataW Unit × List MemPlace} (h : c.red v = some y) : ∃ x, v = c.enc x := by
  unfold MCode.red at h
  split at h
  · assumption
  · cases h
/-- block b is a map: f says what lies at each key; n: how many stores were made at most -/
def CMap (w : World) (b n : Nat) (f : Int → Option ι) : Prop :=
  ∃ D : DataW Unit, w.ownsMap Tryz.prog 3 c.red b n D ∧ IsMap D ∧ ∀ k, D.atKey (.int .i64 k) .nil = c.dat (f k) ∧ Maps.has D (.int .i64 k) = (f k).isSome
end
section
variable {ι : Type} {c : MCode ι} {w w' : World} {b n : Nat} {f : Int → Option ι} {T e : TypeId}
theorem CMap.lt (h : CMap c w b n f) : b < w.heap.size := by
  obtain ⟨D, hD, _⟩ := h
  exact hD.lt
theorem CMap.made (w : World) : CMap c (w.alloc (.map #[] 0)) w.heap.size 0 (fun _ => none) :=
  ⟨_, World.ownsMap_made w _ _ _, isMap_empty, fun k => ⟨c.d0.symm, rfl⟩⟩
theorem CMap.kept {row : Option Nat} (h : CMap c w b n f) (hg : w.grownBy w' row) (hne : some b ≠ row) : CMap c w' b n f := by
  obtain ⟨D, hD, hm, hf⟩ := h
  exact ⟨D, hD.kept hg hne, hm, hf⟩
theorem CMap.upd {S : Nat → Prop} (h : CMap c w b n f) (hu : Upd S w w') (hn : ¬ S b) : CMap c w' b n f := by
  obtain ⟨D, hD, hm, hf⟩ := h
  obtain ⟨es, ck, hb, hrest⟩ := hD
  exact ⟨D, ⟨es, ck, (hu.block b (Array.getElem?_eq_some_iff.1 hb).1 hn).trans hb, hrest⟩, hm, hf⟩
theorem CMap.keep (h : CMap c w b n f) (hb : Below w.heap.size w w') : CMap c w' b n f := h.upd (S := fun _ => False) (Upd.below hb) (fun e => e)
theorem CMap.mono {n' : Nat} (h : CMap c w b n f) (hn : n ≤ n') : CMap c w b n' f := by
  obtain ⟨D, hD, hm, hf⟩ := h
  exact ⟨D, hD.mono hn, hm, hf⟩
theorem CMap.look_ok (h : CMap c w b n f) (ht : Tryz.prog.underlying T = some (.map 3 e)) (hz : (zeroValue e).run Tryz.prog w = .ok (c.enc none) w) {k : Int} (hk : (Lit.int .i64 k).wf = true) : (Instr.lookup T (.map (some b)) (.int .i64 k) true).run Tryz.prog w = .ok (.tuple #[c.enc (f k), .bool (f k).isSome]) w := by
  obtain ⟨D, hD, hm, hf⟩ := h
  obtain ⟨v, ps, hr, hv⟩ := hD.look_ok keyed3 ht hz (c.red_enc none) (keyOf_int_mk Tryz.underlying3 hk)
  rw [c.d0, (hf k).1] at hv
  rw [hr, c.red_inv hv, (hf k).2]
theorem CMap.look (h : CMap c w b n f) (ht : Tryz.prog.underlying T = some (.map 3 e)) (hz : (zeroValue e).run Tryz.prog w = .ok (c.enc none) w) {k : Int} (hk : (Lit.int .i64 k).wf = true) : (Instr.lookup T (.map (some b)) (.int .i64 k) false).run Tryz.prog w = .ok (c.enc (f k)) w := by
  obtain ⟨D, hD, hm, hf⟩ := h
  obtain ⟨v, ps, hr, hv⟩ := hD.lookup keyed3 ht hz (c.red_enc none) (keyOf_int_mk Tryz.underlying3 hk)
  rw [c.d0, (hf k).1] at hv
  rw [hr, c.red_inv hv]
theorem CMap.put (h : CMap c w b n f) (ht : Tryz.prog.underlying T = some (.map 3 e)) {k : Int} (hk : (Lit.int .i64 k).wf = true) (hn : n < maxLen) (x : ι) : ∃ w', (Instr.mapUpdate T (.map (some b)) (.int .i64 k) (c.enc (some x))).run Tryz.prog w = .ok () w' ∧ CMap c w' b (n + 1) (fun j => if j = k then some x else f j) ∧ w.grownBy w' (some b) := by
  obtain ⟨D, hD, hm, hf⟩ := h
  obtain ⟨w', hr, ho, hg⟩ := hD.update keyed3 ht hn (keyOf_int_mk Tryz.underlying3 hk) (c.red_enc (some x))
  refine ⟨w', hr, ⟨_, ho, hm.put _ _, fun j => ?_⟩, hg⟩
  by_cases hj : j = k
  · subst hj
    exact ⟨(atKey_put_same hm (ikey _) _ _).trans (by simp), (has_put_same hm (ikey _) _).trans (by simp)⟩
  · dsimp only
    rw [if_neg hj]
    exact ⟨(atKey_put_other (lit_ne hj) _ _).trans (hf j).1, (has_put_other (lit_ne hj) _).trans (hf j).2⟩
theorem CMap.del (h : CMap c w b n f) (ht : Tryz.prog.underlying T = some (.map 3 e)) {k : Int} (hk : (Lit.int .i64 k).wf = true) (ty : TypeId) : ∃ w', (Builtin.delete_ #[T, 3] ty #[.map (some b), .int .i64 k]).run Tryz.prog w = .ok (.tuple #[]) w' ∧ CMap c w' b n (fun j => if j = k then none else f j) ∧ w.grownBy w' (some b) := by
  obtain ⟨D, hD, hm, hf⟩ := h
  obtain ⟨w', hr, ho, hg⟩ := hD.drop keyed3 ht (keyOf_int_mk Tryz.underlying3 hk) ty
  refine ⟨w', hr, ⟨_, ho, hm.del _, fun j => ?_⟩, hg.grown⟩
  by_cases e : j = k
  · subst e
    rw [atKey_del_same, has_del_same]
    simp [c.d0]
  · rw [atKey_del_other (lit_ne e), has_del_other (lit_ne e)]
    dsimp only
    rw [if_neg e]
    exact hf j
theorem CMap.len (h : CMap c w b n f) (ht : Tryz.prog.underlying T = some (.map 3 e)) (ty : TypeId) : ∃ k : Nat, k ≤ n ∧ (Builtin.len_ #[T] ty #[.map (some b)]).run Tryz.prog w = .ok (.int .i64 k) w := by
  obtain ⟨D, hD, hm, hf⟩ := h
  exact ⟨_, hD.size_le, hD.len ht ty⟩
end
/-- a slice of bytes, by its numbers -/
abbrev SL := Nat × Nat × Nat × Nat
def encS : Option SL → Value
  | none => .slice none 0 0
  | some (b, o, n, c) => .slice (some ⟨b, o, none⟩) n c
def datS : Option SL → DataW Unit
  | none => .nil
  | some (b, o, n, c) => .agg [.lit (.int .i64 b), .lit (.int .i64 o), .lit (.int .i64 n), .lit (.int .i64 c)]
def cS : MCode SL where
  enc := encS
  dat := datS
  d0 := rfl
  ei := fun x y h => by
    cases x with
    | none => cases y with
      | none => rfl
      | some y => obtain ⟨a, b, c, d⟩ := y; simp [encS] at h
    | some x => obtain ⟨a, b, c, d⟩ := x; cases y with
      | none => simp [encS] at h
      | some y => obtain ⟨a', b', c', d'⟩ := y; simp [encS] at h; obtain ⟨⟨h1, h2⟩, h3, h4⟩ := h; rw [h1, h2, h3, h4]
  di := fun x y h => by
    cases x with
    | none => cases y with
      | none => rfl
      | some y => obtain ⟨a, b, c, d⟩ := y; simp [datS] at h
    | some x => obtain ⟨a, b, c, d⟩ := x; cases y with
      | none => simp [datS] at h
      | some y => obtain ⟨a', b', c', d'⟩ := y; simp [datS] at h; obtain ⟨h1, h2, h3, h4⟩ := h; congr <;> omega
/-- a truth that is there -/
def encT : Option Unit → Value
  | none => .bool false
  | some _ => .bool true
def datT : Option Unit → DataW Unit
  | none => .nil
  | some _ => .agg []
def cT : MCode Unit where
  enc := encT
  dat := datT
  d0 := rfl
  ei := fun x y h => by cases x <;> cases y <;> simp [encT] at h ⊢
  di := fun x y h => by cases x <;> cases y <;> simp [datT] at h ⊢
theorem zeroS (w : World) : (zeroValue 28).run Tryz.prog w = .ok (encS none) w := by kernel_rfl
theorem zeroT (w : World) : (zeroValue 4).run Tryz.prog w = .ok (encT none) w := by kernel_rfl
end Go.Proofs.YthioadiiedlmfaaGreatDoor
