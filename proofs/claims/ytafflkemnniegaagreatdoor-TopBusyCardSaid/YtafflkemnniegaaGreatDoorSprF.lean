/- The walks of package disk: Write. append at a run's tasks; the walks of spread's enter, Add at any run. The walks of spread's enter, Add at any run. -/
import Derived.Test.YtafflkemnniegaaGreatDoorBegin
import Derived.OwnWalk
import Derived.Test.YtafflkemnniegaaGreatDoorSprD
import Derived.ArgAppend
import Derived.Deep.RegionHeld3
namespace Go.Proofs.YtafflkemnniegaaGreatDoor
open Go.RowKit
set_option linter.unusedVariables false
set_option linter.unusedSimpArgs false
def appW := Builtin.append_ #[157, 157] 157
theorem appW_eq : Builtin.append_ #[157, 157] 157 = appW := rfl
theorem infoW : (Tryz.prog.info? 282).map (fun i => (i.zero, i.size, i.bytes)) = some (some (.agg #[.int .i64 0, .slice none 0 0]), 2, 32) := by kernel_rfl
/-- f with sector k anew -/
def putS (f : List Int) (k : Nat) (l : List Int) : List Int := splice f (k * 64) l
theorem putS_len {f l : List Int} {k S : Nat} (hf : f.length = S * 64) (hk : k < S) (hl : l.length = 64) : (putS f k l).length = S * 64 := by
  unfold putS
  rw [length_splice _ _ _ (by rw [hf, hl]; omega), hf]
theorem step_append_run {P : Program} {w : World} {ops : Array Oper} {o : Oper} {a : Act} {K : Act → World → Prop} {Q : Exit → Act → World → Prop} {E : Prop} (hgd : o.guard = none) (s x : Operand) (t : TypeId)
    (ho : o.op = .call { callee := .builtin .append, args := #[s, x], argTypes := #[t, t] }) {v' : Value} {w' : World}
    (hr : (Builtin.append_ #[t, t] o.type #[a.eval s, a.eval x]).run P w = .ok v' w') (h : K (a.put o.dst v') w') :
    if Region.wanted o (yielded ops a.tmps) = true then Oper.wp P o a w K Q else E := by
  have hw : Region.wanted o (yielded ops a.tmps) = true := by simp [Region.wanted, hgd]
  rw [if_pos hw]
  unfold Oper.wp execOp
  simp only [ho, resolve, invoke, builtin, Sem.run_bind, Sem.run_pure, Result.andThen_ok, List.map_toArray, List.map_cons, List.map_nil, hr]
  exact h
section
variable {w w' w2 : World} {D sb nb m S : Nat} {wv : Value} {s f : List Int}
theorem Dk.appW (h : Dk w2 D sb nb wv m S s f) (k : Int) (v2 : Value) (hv : v2.oneCell' = true) (hm : m ≤ 100000) : ∃ v' w4, (Builtin.append_ #[157, 157] 157 #[wv, .slice (some ⟨w2.heap.size, 0, none⟩) 1 1]).run Tryz.prog (w2.alloc (.cells #[.int .i64 k, v2] 282)) = .ok v' w4 ∧ w4.cell? ⟨D, 2, none⟩ = some wv ∧ w4.frozen? ⟨D, 2, none⟩ = false ∧
    Dk (w4.setCell ⟨D, 2, none⟩ v') D sb nb v' (m + 1) S s f ∧ Upd (Dset D sb nb wv) w2 (w4.setCell ⟨D, 2, none⟩ v') ∧ (v'.ownBlock = wv.ownBlock ∨ ∃ g, w2.heap.size ≤ g ∧ v'.ownBlock = some g) ∧ ∃ a c, v' = .slice a (m + 1) c := by
  have hal := Go.Joins.below_alloc1 w2 (.cells #[.int .i64 k, v2] 282)
  have h3 := h.keep hal
  obtain ⟨xs, ho⟩ := h3.own
  obtain ⟨i0, hi, hz0, hz1, hz2⟩ := info_parts infoW
  obtain ⟨v', w4, hap, own, gr, hfr⟩ := run_append_fresh (P := Tryz.prog) (w2.alloc (.cells #[.int .i64 k, v2] 282)) 0 157 157 282 i0 _ 2 32 Tryz.underlying157 hi hz0 hz1 hz2 rfl (by decide) wv m xs ho ⟨w2.heap.size, 0, none⟩ 1 1 [.int .i64 k, v2] rfl (cells_new w2 [.int .i64 k, v2] 282) (by intro u hu; simp at hu; rcases hu with rfl | rfl; rfl; exact hv) (by unfold maxLen; omega) (by omega) (by omega)
  obtain ⟨a0, cap, rfl⟩ := own_form own
  have ne : ∀ {b}, wv.ownBlock ≠ some b → some b ≠ wv.ownBlock := fun h e => h e.symm
  have u0 : Upd (fun k => k = D) w4 (w4.setCell ⟨D, 2, none⟩ (.slice a0 (m + 1) cap)) := Upd.set _ _ rfl
  have kD : ∀ {o v}, w2.cell? ⟨D, o, none⟩ = some v → w4.cell? ⟨D, o, none⟩ = some v := fun hc => (grown_cell gr h3.lt (ne h3.o0)).trans ((hal.cell (p := ⟨D, _, none⟩) h.lt).trans hc)
  have nD : ∀ {b}, b < w2.heap.size → wv.ownBlock ≠ some b → (Value.slice a0 (m + 1) cap).ownBlock ≠ some b := fun {b} hb hn => by
    rcases hfr with e | ⟨g, hg, e⟩
    · rw [e]; exact hn
    · rw [e]; intro e2; injection e2 with e2; have := hal.size; omega
  have z : ∀ j, w4.frozen? ⟨D, j, none⟩ = false := fun j => (grown_frozen gr h3.lt (ne h3.o0)).trans (h3.fz j)
  refine ⟨_, w4, hap, kD h.c2, z 2, ⟨set_off (by decide) (kD h.c0), set_off (by decide) (kD h.c1), set_same (kD h.c2), set_off (by decide) (kD h.c3), fun j => by rw [World.frozen?_setCell]; exact z j, Nat.lt_of_lt_of_le h3.lt (Nat.le_trans gr.size u0.size), (h3.sB.kept gr (ne h3.o1)).upd u0 (fun e => h.n1 e.symm), (h3.nB.kept gr (ne h3.o2)).upd u0 (fun e => h.n2 e.symm), h.ls, h.lf, ⟨_, u0.owns own (fun g hg e => nD h.lt h.o0 (by rw [hg, e]))⟩, h.n1, h.n2, h.n3, nD h.lt h.o0, nD h.sB.lt h.o1, nD h.nB.lt h.o2, h.S0, h.S1⟩, ?_, ?_, _, _, rfl⟩
  · exact ((Upd.below hal).trans (Upd.grown0 gr (fun b hb _ => .inr (.inr (.inr hb))))).trans (Upd.set _ _ (.inl rfl))
  · rcases hfr with e | ⟨g, hg, e⟩
    · exact .inl e
    · exact .inr ⟨g, Nat.le_trans hal.size hg, e⟩
theorem Dk.putB (h : Dk w D sb nb wv m S s f) {k : Nat} (hk : k < S) {l : List Int} (hl : l.length = 64) : Dk (w.setRow nb ((putS f k l).map u8V).toArray) D sb nb wv m S s (putS f k l) := by
  have u : Upd (fun b => b = nb) w (w.setRow nb ((putS f k l).map u8V).toArray) := Upd.setRow w _ rfl
  have kD : ∀ {o v}, w.cell? ⟨D, o, none⟩ = some v → (w.setRow nb ((putS f k l).map u8V).toArray).cell? ⟨D, o, none⟩ = some v := fun hc => (u.cell h.lt h.n2).trans hc
  obtain ⟨xs, ho⟩ := h.own
  exact ⟨kD h.c0, kD h.c1, kD h.c2, kD h.c3, fun j => (u.frozen h.lt h.n2).trans (h.fz j), Nat.lt_of_lt_of_le h.lt u.size, h.sB.upd u h.n3, h.nB.setRow _, h.ls, putS_len h.lf hk hl, ⟨xs, u.owns ho (fun g hg e => h.o2 (by rw [hg, e]))⟩, h.n1, h.n2, h.n3, h.o0, h.o1, h.o2, h.S0, h.S1⟩
/-- what Clone leaves ahead of the append to what waits -/
def CW (D sb nb : Nat) (wv : Value) (m S : Nat) (s f : List Int) (k : Nat) (w : World) (e : Ending) (w2 : World) : Prop :=
  ∃ a2 k2 w4 a4 k4, e = .returned (.slice a2 64 k2) ∧ w2.cell? ⟨D, 2, none⟩ = some wv ∧ (w2.alloc (.cells #[.int .i64 k, .slice a2 64 k2] 282)).cell? ⟨D, 2, none⟩ = some wv ∧ (Builtin.append_ #[157, 157] 157 #[wv, .slice (some ⟨w2.heap.size, 0, none⟩) 1 1]).run Tryz.prog (w2.alloc (.cells #[.int .i64 k, .slice a2 64 k2] 282)) = .ok (.slice a4 (m + 1) k4) w4 ∧ w4.cell? ⟨D, 2, none⟩ = some wv ∧ w4.frozen? ⟨D, 2, none⟩ = false ∧
    Hid (Dk (w4.setCell ⟨D, 2, none⟩ (.slice a4 (m + 1) k4)) D sb nb (.slice a4 (m + 1) k4) (m + 1) S s f) ∧ Hid (Upd (Dset D sb nb wv) w (w4.setCell ⟨D, 2, none⟩ (.slice a4 (m + 1) k4))) ∧ Hid ((Value.slice a4 (m + 1) k4).ownBlock = wv.ownBlock ∨ ∃ g, w.heap.size ≤ g ∧ (Value.slice a4 (m + 1) k4).ownBlock = some g)
theorem clone_w (h : Dk w D sb nb wv m S s f) {v : Value} {l : List Int} (hl : l.length = 64) (hv : At (Value.int .u8) 0 w v l) (hm : m ≤ 100000) (k : Nat) : Calls Tryz.prog 150 #[v] w (CW D sb nb wv m S s f k w) := by
  refine (cloneB_is (by rw [hl]; omega) hv).mono ?_
  rintro e2 w2 ⟨v2, rfl, ho2, hb2⟩
  rw [hl] at ho2
  obtain ⟨a2, k2, rfl⟩ := own_form ho2
  have hd2 := h.keep hb2
  obtain ⟨v4, w4, hap, c4, z4, hd4, hu4, hf4, a4, k4, rfl⟩ := hd2.appW k (.slice a2 64 k2) rfl hm
  refine ⟨a2, k2, w4, a4, k4, rfl, hd2.c2, (hd2.keep (Go.Joins.below_alloc1 w2 _)).c2, hap, c4, z4, Lib.hid hd4, Lib.hid ((Upd.below hb2).trans hu4), Lib.hid ?_⟩
  rcases hf4 with e | ⟨g, hg, e⟩
  · exact .inl e
  · exact .inr ⟨g, Nat.le_trans hb2.size hg, e⟩
def WritePost (D sb nb : Nat) (wv : Value) (m S : Nat) (s f : List Int) (k : Nat) (l : List Int) (w : World) (e : Ending) (w' : World) : Prop :=
  e = .returned (.int .i64 0) ∧ ∃ v', Dk w' D sb nb v' (m + 1) S s (putS f k l) ∧ Upd (Dset D sb nb wv) w w' ∧ (v'.ownBlock = wv.ownBlock ∨ ∃ g, w.heap.size ≤ g ∧ v'.ownBlock = some g)
attribute [local go_sem ↓] copyB_eq
set_option maxRecDepth 100000 in
set_option maxHeartbeats 1000000 in
theorem write_is (h : Dk w D sb nb wv m S s f) {k : Nat} (hk : k < S) {v : Value} {l : List Int} (hl : l.length = 64) (hv : At (Value.int .u8) 0 w v l) (hm : m ≤ 100000) (hnv : ∀ a n c, v = .slice (some a) n c → ¬ Dset D sb nb wv a.block) : Calls Tryz.prog 73 #[.pointer (some ⟨D, 0, none⟩), .int .i64 k, v] w (WritePost D sb nb wv m S s f k l w) := by
  have HGO := Lib.hid (goes_is h)
  have HSZ := Lib.hid (size_is h)
  have HCL := Lib.hid (clone_w (h.keep (Below.refl _ _).drew) hl (hv.keep (Below.refl _ _).drew) hm k)
  have HD := Lib.hid h
  have HV := Lib.hid hv
  have HNV := Lib.hid hnv
  have HM := Lib.hid hm
  obtain ⟨va, cap, rfl, hcl, hcm, hvc⟩ := hv
  rw [hl] at hcl
  have i0 : ¬ (k : Int) < 0 := by omega
  have i1 : ¬ (S : Int) ≤ (k : Int) := by omega
  have c2 := h.c2
  obtain ⟨p, hp⟩ : ∃ p, p = WritePost D sb nb wv m S s f k l w := ⟨_, rfl⟩
  rw [← hp]
  have HP := Lib.hid hp
  have HL := Lib.hid hl
  clear h hp hnv hm hvc
  rw [hl]
  rw [hl] at HCL HV HNV
  clear hl
  go_enter Tryz.func73, Tryz.ntmps73
  go_upto_region 4 with (first | (go_at_call 72; refine HSZ.out.mono ?_; rintro e1 w1 ⟨rfl, rfl⟩) | (go_at_call 149; refine HGO.out.mono ?_; rintro e1 w1 ⟨rfl, rfl⟩))
  go_region_law (first | (refine step_append_run rfl (.tmp 26) (.tmp 31) 157 rfl hap ?_) | (go_simp; go_at_call 150; refine HCL.out.mono ?_; rintro e2 w2 ⟨a2, k2, w4, a4, k4, rfl, c22, c23, hap, c4, z4, HD4, HU4, HF4⟩))
  all_goals
    have hd5 := HD4.out
    have HU5 := Lib.hid ((Upd.drew (S := Dset D sb nb wv) w).trans HU4.out)
    have HF5 := Lib.hid HF4.out
    clear HD4 HU4 HF4 hap c4 z4 c22 c23
    generalize w4.setCell ⟨D, 2, none⟩ (.slice a4 (m + 1) k4) = w5 at *
    have c1 := hd5.c1
    have s1 := hd5.S1
    have hv5 : ∃ vb vo, va = some ⟨vb, vo, none⟩ ∧ ∀ i, i < l.length → w5.cell? ⟨vb, vo + i, none⟩ = some (u8V (l.getD i 0)) := by
      obtain ⟨a', cap', e', _, _, hm'⟩ := HV.out
      rcases hm' with h0 | ⟨vb, vo, hab, hlt, hc⟩
      · have := HL.out; rw [h0] at this; simp at this
      · injection e' with e1 _ _
        rw [e1, hab]
        refine ⟨vb, vo, rfl, fun i hi => ?_⟩
        exact (HU5.out.cell hlt (HNV.out _ _ _ (by rw [e1, hab]))).trans (hc i hi)
    obtain ⟨vb, vo, rfl, hvc⟩ := hv5
    have hmin : 64 = Nat.min 64 (S * 64 - k * 64) := (Nat.min_eq_left (by omega)).symm
    have hcp := run_copyB (w := w5) (g := nb) (o := k * 64) (dL := S * 64 - k * 64) (dC := S * 64 - k * 64) (sL := 64) (sC := cap) (cs := l) hd5.nB (by rw [HL.out]; exact hmin) hvc (by rw [HL.out, hd5.lf]; omega)
    rw [HL.out] at hcp
    change (copyB _).run _ _ = .ok _ (w5.setRow nb ((putS f k l).map u8V).toArray) at hcp
    have HD6 := Lib.hid (hd5.putB hk HL.out)
    have HU6 := Lib.hid (HU5.out.trans (Upd.setRow w5 ((putS f k l).map u8V).toArray (S := Dset D sb nb wv) (.inr (.inr (.inl rfl)))))
    generalize w5.setRow nb ((putS f k l).map u8V).toArray = w6 at *
    obtain ⟨n, hn⟩ : ∃ n, n = S * 64 := ⟨_, rfl⟩
    rw [← hn] at c1 hcp
    have b0 : (n : Int) ≤ 16384 := by omega
    have b1 : (k : Int) * 64 + 64 ≤ n := by omega
    have b2 : ¬ n = k * 64 := by omega
    clear hd5 hvc hn HU5 hmin
    go_wp2_with fail
    rw [HP.out]
    exact ⟨rfl, _, HD6.out, HU6.out, HF5.out⟩
end
end Go.Proofs.YtafflkemnniegaaGreatDoor
namespace Go.Proofs.YtafflkemnniegaaGreatDoor
open Go.RowKit
set_option linter.unusedVariables false
set_option linter.unusedSimpArgs false
def appT := Builtin.append_ #[130, 130] 130
theorem infoT : (Tryz.prog.info? 136).map (fun i => (i.zero, i.size, i.bytes)) = some (some (.agg #[.int .i64 0, .int .i64 0, .int .i64 0, .int .i64 0, .int .i64 0, .int .i64 0, .int .i64 0, .int .i64 0, .int .i64 0, .int .i64 0, .int .i64 0, .int .i64 0, .bool false, .bool false, .int .i64 0]), 15, 112) := by kernel_rfl
def bsT (ps : Array (Nat × Value)) : Sem Value := Instr.buildSlice 130 1 ps
theorem bs_task (ps : Array (Nat × Value)) : Instr.buildSlice 130 1 ps = bsT ps := rfl
section
variable {w w' : World} {R cap : Nat} {ad : Option Addr} {cpus ticks pin : Int} {l : List Tk} {T i : Nat} {C X : Array Value} {x : Tk}
theorem tkr_own {base n : Nat} {v : Value} {xs : List Value} (ho : w'.ownsRow base 136 15 v n xs) (hn : 0 < n) (hR : R < base) (hl : l.length = n) (hm : n ≤ 1000) (ht : TksIn xs.toArray pin l) : ∃ T c C, v = .slice (some ⟨T, 0, none⟩) n c ∧ base ≤ T ∧ TkR w' R T c pin l C := by
  rcases ho.2 with ⟨he, h0⟩ | ⟨g, c, cur, he, hb, hg, hnc, hcm, hcs, htk⟩
  · omega
  refine ⟨g, c, cur, he, hb, by omega, hg, by omega, hcm, by omega, by omega, fun i x hx => (ht i x hx).of fun j hj => ?_⟩
  have hi := (List.getElem?_eq_some_iff.1 hx).1
  rw [← htk]
  simp only [List.getElem?_toArray]
  rw [List.getElem?_take, if_pos (by omega)]
  simp
theorem tks_push (hC : TksIn C pin l) (hc : l.length * 15 ≤ C.size) (hX : TkIn X 0 pin x) (hs : X.size = 15) : TksIn (C.toList.take (l.length * 15) ++ X.toList).toArray pin (l ++ [x]) := by
  have hlen : (C.toList.take (l.length * 15)).length = l.length * 15 := by rw [List.length_take]; simp; omega
  intro i y hy
  by_cases hi : i < l.length
  · rw [List.getElem?_append_left hi] at hy
    refine (hC i y hy).of fun j hj => ?_
    rw [List.getElem?_toArray, List.getElem?_append_left (by omega), List.getElem?_take, if_pos (by omega)]
    simp
  · rw [List.getElem?_append_right (by omega)] at hy
    have h0 : i = l.length := by
      have := (List.getElem?_eq_some_iff.1 hy).1
      simp at this
      omega
    subst h0
    simp at hy
    subst hy
    refine hX.of fun j hj => ?_
    rw [List.getElem?_toArray, List.getElem?_append_right (by omega), hlen]
    simp
theorem app_any (h : RunG w R ad cap cpus ticks pin l) (hX : TkIn X 0 pin x) (hs : X.size = 15) (hm : l.length < 1000) : ∃ T c w', (appT #[.slice ad l.length cap, .slice (some ⟨w.heap.size, 0, none⟩) 1 1]).run Tryz.prog (w.alloc (.cells X 136)) = .ok (.slice (some ⟨T, 0, none⟩) (l.length + 1) c) w' ∧ RunG (w'.setCell ⟨R, 3, none⟩ (.slice (some ⟨T, 0, none⟩) (l.length + 1) c)) R (some ⟨T, 0, none⟩) c cpus ticks pin (l ++ [x]) ∧ (∃ v, w'.cell? ⟨R, 3, none⟩ = some v) ∧ w'.frozen? ⟨R, 3, none⟩ = false ∧ (ad = some ⟨T, 0, none⟩ ∨ w.heap.size ≤ T) ∧ Upd (rS R ad) w w' := by
  obtain ⟨i0, hi, hz0, hz1, hz2⟩ := info_parts infoT
  have hb1 := Go.Joins.below_alloc1 w (.cells X 136)
  have hr1 := row_new w 136 X
  have hone : ∀ u ∈ X.toList, u.oneCell' = true := by
    have := hX.one hs
    rw [Array.all_eq_true] at this
    intro u hu
    obtain ⟨j, hj, rfl⟩ := List.getElem_of_mem hu
    simpa using this j (by simpa using hj)
  have hnew : ∀ j u, X.toList[j]? = some u → (w.alloc (.cells X 136)).cell? ((⟨w.heap.size, 0, none⟩ : Addr).add j) = some u := fun j u hu => by
    rw [Addr.add_lit, hr1.cell]
    simpa using hu
  have hk := h.keep hb1
  have hRl := h.lt
  have hsz : w.heap.size ≤ (w.alloc (.cells X 136)).heap.size := hb1.size
  rcases h.row with ⟨rfl, rfl, rfl⟩ | ⟨T, C, rfl, ht⟩
  · obtain ⟨v', w', hr, ho, hg, -⟩ := run_append_fresh (P := Tryz.prog) (w.alloc (.cells X 136)) w.heap.size 130 130 136 i0 _ 15 112 Tryz.underlying130 hi hz0 hz1 hz2 rfl (by decide) (.slice none 0 0) 0 [] (World.ownsRow_nil _ _ _ _) ⟨w.heap.size, 0, none⟩ 1 1 X.toList (by simpa using hs) hnew hone (by decide) (by decide) (by simp)
    have hbg : Below w.heap.size w w' := hb1.trans ((Below.refl _ _).grown hg (by simp) (fun k hk => by simp [Value.ownBlock] at hk))
    obtain ⟨T, c, C, rfl, hT, htr⟩ := tkr_own (l := [x]) (pin := pin) (R := R) ho (by decide) hRl rfl (by decide) (tks_push (C := #[]) (l := []) (fun i y hy => by simp at hy) (by simp) hX hs)
    have hq := (h.keep hbg).r
    exact ⟨T, c, w', hr, hq.lay htr rfl, hq.c3, hq.fz 3, .inr hT, Upd.below hbg⟩
  · have htk := ht.keep hb1
    by_cases hroom : l.length + 1 ≤ cap
    · have hc2 : ∀ j, j < X.toList.length → ((w.alloc (.cells X 136)).cell? ⟨T, 0 + l.length * i0.size + j, none⟩).isSome = true := fun j hj => by
        have hj' : j < 15 := by simpa [hs] using hj
        have := ht.sz
        rw [htk.row.cell, hz1, Array.getElem?_eq_getElem (by omega)]
        rfl
      have hf2 : ∀ j, j < X.toList.length → (w.alloc (.cells X 136)).frozen? ⟨T, 0 + l.length * i0.size + j, none⟩ = false := fun j _ => htk.row.fz _
      have hr := run_append_room_cells (P := Tryz.prog) (w := w.alloc (.cells X 136)) 130 130 136 i0 Tryz.underlying130 hi T 0 l.length cap ⟨w.heap.size, 0, none⟩ 1 1 X.toList (by rw [hz1]; simpa using hs) hnew hone hroom hc2 hf2
      rw [hz1, htk.row.setCells X.toList (by have := ht.sz; simp [hs]; omega)] at hr
      have hu2 : Upd (fun k => k = T) (w.alloc (.cells X 136)) ((w.alloc (.cells X 136)).setRow T (putA C (0 + l.length * 15) X.toList)) := Upd.setRow _ _ rfl
      have hq := hk.r.upd hu2 (fun e => ht.ne e.symm)
      have hpl : 0 + l.length * 15 + X.toList.length ≤ C.size := by have := ht.sz; simp [hs]; omega
      refine ⟨T, cap, _, hr, hq.lay (C := putA C (0 + l.length * 15) X.toList) ⟨ht.ne, htk.row.setRow _, ?_, ht.mx, by simpa using hroom, by simp; omega, ?_⟩ (by simp), hq.c3, hq.fz 3, .inl rfl, (Upd.below hb1).trans' hu2 (fun k _ e => .inr ⟨_, rfl, e⟩)⟩
      · rw [putA_size hpl]; exact ht.sz
      · intro i y hy
        by_cases hi : i < l.length
        · rw [List.getElem?_append_left hi] at hy
          refine (ht.tks i y hy).of fun j hj => ?_
          rw [putA_get hpl, if_neg (by omega)]
        · rw [List.getElem?_append_right (by omega)] at hy
          have h0 : i = l.length := by
            have := (List.getElem?_eq_some_iff.1 hy).1
            simp at this
            omega
          subst h0
          simp at hy
          subst hy
          refine hX.of fun j hj => ?_
          rw [putA_get hpl, if_pos (by simp [hs]; omega)]
          simp
    · have hlo : (C.toList.take (l.length * 15)).length = l.length * 15 := by rw [List.length_take]; have := ht.sz; have := ht.len; simp; omega
      obtain ⟨v', w', hr, ho, hg⟩ := run_append_arg_grows (P := Tryz.prog) (w := w.alloc (.cells X 136)) 130 130 136 i0 _ 15 112 Tryz.underlying130 hi hz0 hz1 hz2 rfl (by decide) ⟨T, 0, none⟩ l.length cap (C.toList.take (l.length * 15)) hlo (fun j u hu => by
        rw [List.getElem?_take] at hu
        split at hu
        · rw [Addr.add_lit, htk.row.cell]; simpa using hu
        · cases hu) ⟨w.heap.size, 0, none⟩ 1 1 X.toList (by simpa using hs) hnew (by omega) (by unfold maxLen; omega) (by omega)
      have hbg : Below w.heap.size w w' := hb1.trans ((Below.refl _ _).grown hg (by simp) (fun k hk => by cases hk))
      obtain ⟨T', c, C', rfl, hT, htr⟩ := tkr_own (l := l ++ [x]) (pin := pin) (R := R) ho (by omega) (by omega) (by simp) (by omega) (tks_push ht.tks (by have := ht.sz; have := ht.len; omega) hX hs)
      have hq := (h.keep hbg).r
      exact ⟨T', c, w', hr, hq.lay htr (by simp), hq.c3, hq.fz 3, .inr (by omega), Upd.below hbg⟩
end
end Go.Proofs.YtafflkemnniegaaGreatDoor
namespace Go.Proofs.YtafflkemnniegaaGreatDoor
open Go.RowKit
set_option linter.unusedVariables false
set_option linter.unusedSimpArgs false
def tX (t v pin : Int) : Array Value := #[.int .i64 t, .int .i64 1, .int .i64 10, .int .i64 0, .int .i64 0, .int .i64 0, .int .i64 0, .int .i64 0, .int .i64 0, .int .i64 v, .int .i64 0, .int .i64 pin, .bool true, .bool false, .int .i64 0]
theorem tX_in (t v pin : Int) : TkIn (tX t v pin) 0 pin ⟨t, v, true, 0⟩ := ⟨rfl, rfl, rfl, rfl, rfl, rfl, rfl, rfl, rfl, rfl, ⟨0, rfl⟩, rfl, rfl, rfl, rfl⟩
theorem bsT_any (w : World) (t v pin : Int) : (bsT #[(0, .agg (tX t v pin))]).run Tryz.prog w = .ok (.slice (some ⟨w.heap.size, 0, none⟩) 1 1) (w.alloc (.cells (tX t v pin) 136)) := by kernel_rfl
def ixT (x i : Value) : Sem Value := Instr.indexAt 130 x i
theorem ix_task (x i : Value) : Instr.indexAt 130 x i = ixT x i := rfl
theorem ixT_run (w : World) (T c n : Nat) : (ixT (.slice (some ⟨T, 0, none⟩) (n + 1) c) (.int .i64 n)).run Tryz.prog w = .ok (.pointer (some ⟨T, n * 15, none⟩)) w := by
  have h0 : (0 : Int) ≤ n := by omega
  have h1 : (n : Int) < (n : Int) + 1 := by omega
  simp [ixT, Instr.indexAt, go_sem, run_underlying Tryz.underlying130, h0, h1]
/-- the tasks behind an entry -/
def enterL (l : List Tk) (t : Int) (m : Nat) : List Tk := fillG (l ++ [⟨t, (lowG l l.length).getD 0, true, -1⟩]) m
section
variable {w w' : World} {R cap : Nat} {ad : Option Addr} {cpus ticks pin : Int} {l : List Tk} {T i : Nat} {C X : Array Value} {x : Tk}
attribute [local go_sem ↓] ld_task bs_task ix_task
set_option maxRecDepth 100000 in
set_option maxHeartbeats 1000000 in
theorem enterG_is {m : Nat} (h : RunG w R ad cap m ticks pin l) (t : Int) (hm : m ≤ 8) (hl : l.length < 1000) (hpin : wrap64 (wrap64 (2 ^ m) - 1) = pin) (hp : ∀ c, c < m → pinOk pin c) :
    Calls Tryz.prog 98 #[.pointer (some ⟨R, 0, none⟩), .agg #[.int .i64 t, .int .i64 1, .int .i64 10, .int .i64 0, .int .i64 0, .int .i64 0, .int .i64 0, .int .i64 0, .int .i64 0, .int .i64 0, .int .i64 0, .int .i64 0, .bool false, .bool false, .int .i64 0]] w fun e w' => e = .returned (.tuple #[]) ∧ (∃ T c, RunG w' R (some ⟨T, 0, none⟩) c m ticks pin (enterL l t m) ∧ (ad = some ⟨T, 0, none⟩ ∨ w.heap.size ≤ T)) ∧ Upd (rS R ad) w w' := by
  have c0 := h.c0
  have HH := Lib.hid h
  have hne : ¬ R = w.heap.size := by have := h.lt; omega
  have hm0 : (0 : Int) ≤ m := by omega
  have hm1 : (m : Int) ≤ 8 := by omega
  have d0 : ∀ C : Array Value, (w.alloc (.cells C 136)).cell? ⟨R, 0, none⟩ = some (.int .i64 m) := fun C => (h.keep (Go.Joins.below_alloc1 w _)).c0
  have HP := Lib.hid (And.intro hp hl)
  clear h hp hl
  go_enter Tryz.func98, Tryz.ntmps98
  go_upto_region 2 with fail
  have HR1 : Hid (Row (w.alloc (.cells (tX t 0 pin) 136)) w.heap.size 136 (tX t 0 pin)) := Lib.hid (row_new w _ _)
  have HB1 := Lib.hid (Go.Joins.below_alloc1 w (.cells (tX t 0 pin) 136))
  have HQ1 := Lib.hid (HH.out.keep HB1.out)
  (try rw [hpin])
  change Code.wp _ _ _ _ (w.alloc (.cells (tX t 0 pin) 136))
  generalize hw1 : w.alloc (.cells (tX t 0 pin) 136) = w1 at *
  clear d0 c0 hw1
  have HLO := Lib.hid (lowG_is HQ1.out)
  obtain ⟨o, ho⟩ : ∃ o, o = lowG l l.length := ⟨_, rfl⟩
  have HLE : Hid (enterL l t m = fillG (l ++ [⟨t, o.getD 0, true, -1⟩]) m) := Lib.hid (by rw [ho]; rfl)
  rw [← ho] at HLO
  clear ho
  go_upto_region 3 with (go_at_call 138; refine HLO.out.mono ?_; rintro e2 w2 ⟨rfl, hb2⟩)
  have HR2 := Lib.hid (HR1.out.keep hb2)
  have HQ2 := Lib.hid (HQ1.out.keep hb2)
  have HB2 := Lib.hid (HB1.out.trans (hb2.mono HB1.out.size))
  have HLT := Lib.hid HH.out.lt
  clear hb2 HLO HR1 HB1 HQ1
  have x1 := HR2.out.cell 1
  have x9 := HR2.out.cell 9
  have f9 := HR2.out.fz 9
  rw [show (tX t 0 pin)[1]? = some (.int .i64 1) from rfl] at x1
  rw [show (tX t 0 pin)[9]? = some (.int .i64 0) from rfl] at x9
  cases o with
  | none =>
    rw [show lowB none = .bool false from rfl, show lowN none = .int .i64 0 from rfl]
    go_upto_region 5 with fail
    have HR3 := HR2
    have HQ3 := HQ2
    have HB3 := HB2
    generalize w2 = w3 at *
    clear x1 x9 f9 HR2 HQ2 HB2
    obtain ⟨n, hn⟩ : ∃ n, n = l.length := ⟨_, rfl⟩
    have hal := Go.Joins.below_alloc1 w3 (.cells (tX t 0 pin) 136)
    obtain ⟨T, c, w4, hap, hG4, ⟨u3, e3⟩, f3, hT, hU4⟩ := app_any HQ3.out.drew (tX_in t 0 pin) rfl HP.out.2
    have hap : (Builtin.append_ #[130, 130] 130 #[.slice ad l.length cap, .slice (some ⟨w3.heap.size, 0, none⟩) 1 1]).run Tryz.prog ((w3.alloc (.cells (tX t 0 pin) 136)).drew) = .ok (.slice (some ⟨T, 0, none⟩) (l.length + 1) c) w4 := hap
    have c3 := HQ3.out.c3
    have d3 := (HQ3.out.keep hal).c3
    have l3 := HR3.out.ld0 (d := _) Tryz.underlying136 rfl (by kernel_rfl)
    have l3d := HR3.out.drew.ld0 (d := _) Tryz.underlying136 rfl (by kernel_rfl)
    have l4 := (HR3.out.keep hal).ld0 (d := _) Tryz.underlying136 rfl (by kernel_rfl)
    have l4d := (HR3.out.keep hal).drew.ld0 (d := _) Tryz.underlying136 rfl (by kernel_rfl)
    have hbs := fun w => bsT_any w t 0 pin
    have HG4 := Lib.hid hG4
    have HT3 : Hid (ad = some ⟨T, 0, none⟩ ∨ w.heap.size ≤ T) := Lib.hid (by rcases hT with q | q; exact .inl q; exact .inr (Nat.le_trans HB3.out.size q))
    have HU5 := Lib.hid (((Upd.below HB3.out).trans ((Upd.drew w3).trans hU4)).trans (Upd.set w4 (i := 3) (.slice (some ⟨T, 0, none⟩) (l.length + 1) c) (S := rS R ad) (b := R) (.inl rfl)))
    have HX : Hid ((l ++ [(⟨t, 0, true, 0⟩ : Tk)])[l.length]? = some ⟨t, 0, true, 0⟩) := Lib.hid (by simp)
    have HLL : Hid ((l ++ [(⟨t, 0, true, 0⟩ : Tk)]).length = l.length + 1) := Lib.hid (by simp)
    have HLS : Hid ((l ++ [(⟨t, 0, true, 0⟩ : Tk)]).set l.length ⟨t, 0, true, -1⟩ = l ++ [⟨t, 0, true, -1⟩]) := Lib.hid (by simp)
    have hmx := HQ3.out.mx
    rw [← hn] at hap c3 d3 HG4 HU5 HX HLL HLS hmx
    have HN := Lib.hid hn
    clear hG4 hT hU4 hal hn HQ3 HR3 HB3
    have n0 : (0 : Int) ≤ n := by omega
    have n1 : (n : Int) < (n : Int) + 1 := by omega
    have n2 : IntKind.i64.wrap (n : Int) = n := IntWalk.i64_in _ (by omega)
    generalize tX t 0 pin = A at *
    have hix := fun w => ixT_run w T c n
    go_region_law (refine step_append_run rfl (.tmp 31) (.tmp 33) 130 rfl hap ?_)
    all_goals
      clear hap c3 d3 l3 l3d l4 l4d hbs e3 f3
      generalize w4.setCell ⟨R, 3, none⟩ (.slice (some ⟨T, 0, none⟩) (n + 1) c) = w5 at *
      have c3 : w5.cell? ⟨R, 3, none⟩ = some (.slice (some ⟨T, 0, none⟩) (n + 1) c) := by have := HG4.out.c3; rwa [HLL.out] at this
      have HWT := Lib.hid (waitG_is HG4.out.drew HX.out)
      go_upto_region 6 with fail
      go_region_held3 (fun wx => wx.cell? ⟨R, 3, none⟩ = some (.slice (some ⟨T, 0, none⟩) (n + 1) c)) (first | assumption | exact hS6) ((go_at_call 58; refine HWT.out.mono ?_; rintro e6 w6 ⟨rfl, hr6, hu6⟩; have hS6 : w6.cell? ⟨R, 3, none⟩ = some (.slice (some ⟨T, 0, none⟩) (n + 1) c) := (by have := hr6.c3; rwa [List.length_set, HLL.out] at this)))
      clear hS6
      rw [HLS.out] at hr6
      have HU6 := Lib.hid (HU5.out.trans' ((Upd.drew w5).trans hu6) (fun k hk e => by
        rcases e with e | ⟨a, e1, e2⟩
        · exact .inl e
        · injection e1 with e1
          subst e1
          rcases HT3.out with q | q
          · exact .inr ⟨_, q, e2⟩
          · have e2 : k = T := e2
            omega))
      have HFI := Lib.hid (fillG_is hr6 HP.out.1 (by omega))
      clear hr6 hu6 c3 HWT
      go_wp2_with (go_at_call 59; refine HFI.out.mono ?_; rintro e7 w7 ⟨rfl, hr7, hu7⟩; have HR7 := Lib.hid hr7; have HU7 := Lib.hid (HU6.out.trans' hu7 (fun k hk e => by
        rcases e with e | ⟨a, e1, e2⟩
        · exact .inl e
        · injection e1 with e1
          subst e1
          rcases HT3.out with q | q
          · exact .inr ⟨_, q, e2⟩
          · have e2 : k = T := e2
            omega)); clear hr7 hu7)
      (try simp only [Exit.inBlock, Exit.then]); first | (refine bodyPost_ret (results_none rfl _ _ _) rfl ?_) | (refine bodyPost_end (results_none rfl _ _ _) rfl ?_)
      exact ⟨rfl, ⟨_, _, by rw [HLE.out]; exact HR7.out, HT3.out⟩, HU7.out⟩
  | some v =>
    rw [show lowB (some v) = .bool true from rfl, show lowN (some v) = .int .i64 v from rfl]
    go_upto_region 5 with fail
    have HU0 : Hid (Upd (fun k => k = w.heap.size) w2 (w2.setCell ⟨w.heap.size, 9, none⟩ (.int .i64 v))) := Lib.hid (Upd.set _ _ rfl)
    have HR3 : Hid (Row (w2.setCell ⟨w.heap.size, 9, none⟩ (.int .i64 v)) w.heap.size 136 (tX t v pin)) := Lib.hid (by rw [HR2.out.setCell]; exact HR2.out.setRow _)
    have HQ3 := Lib.hid (HQ2.out.upd HU0.out (fun e => hne e) (fun a e q => by
      rcases HH.out.row with ⟨q1, _⟩ | ⟨T, C, q1, q2⟩
      · rw [e] at q1; cases q1
      · rw [e] at q1; injection q1 with q1; subst q1; have := q2.row.lt; have q : T = w.heap.size := q; omega))
    have HB3 := Lib.hid (HB2.out.trans (HU0.out.toBelow (B := w.heap.size) HB2.out.size (fun k hk e => by omega)))
    clear HU0
    generalize w2.setCell ⟨w.heap.size, 9, none⟩ (.int .i64 v) = w3 at *
    clear x1 x9 f9 HR2 HQ2 HB2
    obtain ⟨n, hn⟩ : ∃ n, n = l.length := ⟨_, rfl⟩
    have hal := Go.Joins.below_alloc1 w3 (.cells (tX t v pin) 136)
    obtain ⟨T, c, w4, hap, hG4, ⟨u3, e3⟩, f3, hT, hU4⟩ := app_any HQ3.out.drew (tX_in t v pin) rfl HP.out.2
    have hap : (Builtin.append_ #[130, 130] 130 #[.slice ad l.length cap, .slice (some ⟨w3.heap.size, 0, none⟩) 1 1]).run Tryz.prog ((w3.alloc (.cells (tX t v pin) 136)).drew) = .ok (.slice (some ⟨T, 0, none⟩) (l.length + 1) c) w4 := hap
    have c3 := HQ3.out.c3
    have d3 := (HQ3.out.keep hal).c3
    have l3 := HR3.out.ld0 (d := _) Tryz.underlying136 rfl (by kernel_rfl)
    have l3d := HR3.out.drew.ld0 (d := _) Tryz.underlying136 rfl (by kernel_rfl)
    have l4 := (HR3.out.keep hal).ld0 (d := _) Tryz.underlying136 rfl (by kernel_rfl)
    have l4d := (HR3.out.keep hal).drew.ld0 (d := _) Tryz.underlying136 rfl (by kernel_rfl)
    have hbs := fun w => bsT_any w t v pin
    have HG4 := Lib.hid hG4
    have HT3 : Hid (ad = some ⟨T, 0, none⟩ ∨ w.heap.size ≤ T) := Lib.hid (by rcases hT with q | q; exact .inl q; exact .inr (Nat.le_trans HB3.out.size q))
    have HU5 := Lib.hid (((Upd.below HB3.out).trans ((Upd.drew w3).trans hU4)).trans (Upd.set w4 (i := 3) (.slice (some ⟨T, 0, none⟩) (l.length + 1) c) (S := rS R ad) (b := R) (.inl rfl)))
    have HX : Hid ((l ++ [(⟨t, v, true, 0⟩ : Tk)])[l.length]? = some ⟨t, v, true, 0⟩) := Lib.hid (by simp)
    have HLL : Hid ((l ++ [(⟨t, v, true, 0⟩ : Tk)]).length = l.length + 1) := Lib.hid (by simp)
    have HLS : Hid ((l ++ [(⟨t, v, true, 0⟩ : Tk)]).set l.length ⟨t, v, true, -1⟩ = l ++ [⟨t, v, true, -1⟩]) := Lib.hid (by simp)
    have hmx := HQ3.out.mx
    rw [← hn] at hap c3 d3 HG4 HU5 HX HLL HLS hmx
    have HN := Lib.hid hn
    clear hG4 hT hU4 hal hn HQ3 HR3 HB3
    have n0 : (0 : Int) ≤ n := by omega
    have n1 : (n : Int) < (n : Int) + 1 := by omega
    have n2 : IntKind.i64.wrap (n : Int) = n := IntWalk.i64_in _ (by omega)
    generalize tX t v pin = A at *
    have hix := fun w => ixT_run w T c n
    go_region_law (refine step_append_run rfl (.tmp 31) (.tmp 33) 130 rfl hap ?_)
    all_goals
      clear hap c3 d3 l3 l3d l4 l4d hbs e3 f3
      generalize w4.setCell ⟨R, 3, none⟩ (.slice (some ⟨T, 0, none⟩) (n + 1) c) = w5 at *
      have c3 : w5.cell? ⟨R, 3, none⟩ = some (.slice (some ⟨T, 0, none⟩) (n + 1) c) := by have := HG4.out.c3; rwa [HLL.out] at this
      have HWT := Lib.hid (waitG_is HG4.out.drew HX.out)
      go_upto_region 6 with fail
      go_region_held3 (fun wx => wx.cell? ⟨R, 3, none⟩ = some (.slice (some ⟨T, 0, none⟩) (n + 1) c)) (first | assumption | exact hS6) ((go_at_call 58; refine HWT.out.mono ?_; rintro e6 w6 ⟨rfl, hr6, hu6⟩; have hS6 : w6.cell? ⟨R, 3, none⟩ = some (.slice (some ⟨T, 0, none⟩) (n + 1) c) := (by have := hr6.c3; rwa [List.length_set, HLL.out] at this)))
      clear hS6
      rw [HLS.out] at hr6
      have HU6 := Lib.hid (HU5.out.trans' ((Upd.drew w5).trans hu6) (fun k hk e => by
        rcases e with e | ⟨a, e1, e2⟩
        · exact .inl e
        · injection e1 with e1
          subst e1
          rcases HT3.out with q | q
          · exact .inr ⟨_, q, e2⟩
          · have e2 : k = T := e2
            omega))
      have HFI := Lib.hid (fillG_is hr6 HP.out.1 (by omega))
      clear hr6 hu6 c3 HWT
      go_wp2_with (go_at_call 59; refine HFI.out.mono ?_; rintro e7 w7 ⟨rfl, hr7, hu7⟩; have HR7 := Lib.hid hr7; have HU7 := Lib.hid (HU6.out.trans' hu7 (fun k hk e => by
        rcases e with e | ⟨a, e1, e2⟩
        · exact .inl e
        · injection e1 with e1
          subst e1
          rcases HT3.out with q | q
          · exact .inr ⟨_, q, e2⟩
          · have e2 : k = T := e2
            omega)); clear hr7 hu7)
      (try simp only [Exit.inBlock, Exit.then]); first | (refine bodyPost_ret (results_none rfl _ _ _) rfl ?_) | (refine bodyPost_end (results_none rfl _ _ _) rfl ?_)
      exact ⟨rfl, ⟨_, _, by rw [HLE.out]; exact HR7.out, HT3.out⟩, HU7.out⟩
end
end Go.Proofs.YtafflkemnniegaaGreatDoor
