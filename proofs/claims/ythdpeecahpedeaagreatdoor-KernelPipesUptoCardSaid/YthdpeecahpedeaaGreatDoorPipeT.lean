/- The walk of the law KernelPipes: till the pipe is made. -/
import Derived.Test.YthdpeecahpedeaaGreatDoorPipeS
namespace Go.Proofs.YthdpeecahpedeaaGreatDoor
open Go.RowKit
set_option linter.unusedVariables false
set_option linter.unusedSimpArgs false
theorem bd_call10 (w : World) : (bdC #[(0, .int .i64 10)]).run Tryz.prog w = .ok (.agg #[.int .i64 10, .int .i64 0, .int .i64 0, .int .i64 0, .string ByteArray.empty, .string ByteArray.empty, .slice none 0 0]) w := by kernel_rfl
theorem bd_call6 (w : World) (a : Int) : (bdC #[(0, .int .i64 6), (1, .int .i64 a)]).run Tryz.prog w = .ok (.agg #[.int .i64 6, .int .i64 a, .int .i64 0, .int .i64 0, .string ByteArray.empty, .string ByteArray.empty, .slice none 0 0]) w := by kernel_rfl
theorem bd_call8 (w : World) (a : Int) (ad : Option Addr) (n k : Nat) : (bdC #[(0, .int .i64 8), (1, .int .i64 a), (6, .slice ad n k)]).run Tryz.prog w = .ok (.agg #[.int .i64 8, .int .i64 a, .int .i64 0, .int .i64 0, .string ByteArray.empty, .string ByteArray.empty, .slice ad n k]) w := by kernel_rfl
/-- the elements of the list -/
def Els (w : World) (a : Option Addr) (N : Nat) : Prop := N = 0 ∨ ∃ b off, a = some ⟨b, off, none⟩ ∧ b < w.heap.size ∧ ∀ i, i < N → ∃ ad bs cp, w.cell? ⟨b, off + i, none⟩ = some (.slice ad (bs : List Int).length cp) ∧ At (Value.int .u8) 0 w (.slice ad bs.length cp) bs ∧ (ad = none → cp = 0)
/-- loop 1's relation -/
structure L1 (w wr : World) (K Pr P Fi b8 : Nat) (c : Nat → Value) (d8 : Value) (s : St) (vi vo : Value) (li lo : List Int) (k : Nat) : Prop where
  lb : LB w wr K Pr P Fi b8 c d8 s vi vo li lo
  f : s.fs = pf2 ∧ s.fd = pd2 ∧ s.e1 = 1
  l : s.l.length ≤ 64
  eq : li = lo ++ s.l
  len : lo.length ≤ 40 * k
section
variable {w w1 : World} {B K P Wh Fi Pr R M so sp : Nat} {c : Nat → Value}
theorem KS.kb (h : KS w1 B K P Wh Fi Pr R M so sp c) : KB4 w1 K Pr P Fi c := by
  have b := h.kp.b
  exact ⟨⟨h.kr, h.c7, h.sl, h.sg, h.kp.pr⟩, h.c3, h.c6, by omega⟩
theorem L1.start (hb : Below w.heap.size w w1) (hK : w.heap.size ≤ B) (h : KS w1 B K P Wh Fi Pr R M so sp c) {w2 : World} {s : St} {dl : List Int} {e a b : Int} {d : Value} (hs : PSt w2 K Pr P Fi c s) (hT : TPipe w1.heap.size s dl e a b) (hU : Upd (fun k => k = P ∨ k = Fi) w1 w2) (hX : (ansV e a b d).size = 11) :
    L1 w (w2.alloc (.cells (ansV e a b d) 33)) K Pr P Fi w2.heap.size c d s (.slice none 0 0) (.slice none 0 0) [] [] 0 := by
  obtain ⟨t1, t2, t3, t4, t5, t6, rfl, rfl, rfl⟩ := hT
  have bb := h.kp.b
  have z1 := hb.size
  have z2 := hU.size
  have al := Go.Joins.below_alloc1 w2 (.cells (ansV 0 0 1 d) 33)
  have lO := hs.pi.ol
  have lF := hs.ot.lt
  have hb2 : Below w.heap.size w w2 := hb.trans (hU.toBelow z1 (fun k hk e => by omega))
  refine ⟨⟨hb2.trans (al.mono hb2.size), hs.keep al, row_new _ _ _, OB.nil _ _, OB.nil _ _, ⟨hb2.size, by omega, by omega, by rw [t2]; simp [Value.ownBlock]⟩, by simp [Value.ownBlock], by simp [Value.ownBlock], by simp [Value.ownBlock], ⟨by omega, by omega, by omega, by omega, by omega, by rw [t2]; simp [Value.ownBlock]⟩⟩, ⟨t5, t6, t4⟩, by rw [t3]; simp, by rw [t3]; rfl, by simp⟩
end
section
variable {w wr w2 : World} {d8 : Value} {K Pr P Fi b8 k : Nat} {c : Nat → Value} {s s' : St} {vi vo : Value} {li lo : List Int}
theorem L1.keep (h : L1 w wr K Pr P Fi b8 c d8 s vi vo li lo k) (hb : Below wr.heap.size wr w2) : L1 w w2 K Pr P Fi b8 c d8 s vi vo li lo k := ⟨h.lb.keep hb, h.f, h.l, h.eq, h.len⟩
theorem L1.waited (h : L1 w wr K Pr P Fi b8 c d8 s vi vo li lo k) (hs : PSt w2 K Pr P Fi c s') (hU : Upd (fun k => k = s.O ∨ s.v.ownBlock = some k) wr w2) (vn : VN wr.heap.size s s') (hf : s'.fs = s.fs ∧ s'.fd = s.fd ∧ s'.e1 = 1) (hl : s'.l = s.l) : L1 w w2 K Pr P Fi b8 c d8 s' vi vo li lo k :=
  ⟨h.lb.step hs (hU.mono (fun _ _ e => .inr e)) vn, ⟨by rw [hf.1]; exact h.f.1, by rw [hf.2.1]; exact h.f.2.1, hf.2.2⟩, by rw [hl]; exact h.l, by rw [hl]; exact h.eq, h.len⟩
theorem L1.wrote {w3 : World} {ad : Option Addr} {cp m2 : Nat} {news : List Int} (h : L1 w wr K Pr P Fi b8 c d8 s vi vo li lo k) (hk : k ≤ 1048576) (hs : PSt w2 K Pr P Fi c s') (hU : Upd (fun k => k = s.O ∨ s.v.ownBlock = some k) wr w2) (vn : VN wr.heap.size s s') (hf : s'.fs = s.fs ∧ s'.fd = s.fd ∧ s'.e1 = 1) (hl : s'.l = s.l ++ news) (h64 : s'.l.length ≤ 64) (hb : Below w2.heap.size w2 w3) (hsrc : Src w3 ad cp news) (hm : news.length = m2) :
    ∃ p q c' w4, (appB #[vi, .slice ad m2 cp]).run Tryz.prog w3 = .ok (.slice p q c') w4 ∧ L1 w w4 K Pr P Fi b8 c d8 s' (.slice p q c') vo (li ++ news) lo k := by
  subst hm
  have hL := (h.lb.step hs (hU.mono (fun _ _ e => .inr e)) vn).keep hb
  have hlen := h.len
  have hll : li.length + news.length ≤ 100000000000 := by
    rw [h.eq, List.length_append]
    rw [hl, List.length_append] at h64
    omega
  obtain ⟨p, c', w4, hr, hL4⟩ := hL.appI hsrc hll
  exact ⟨p, _, c', w4, hr, hL4, ⟨by rw [hf.1]; exact h.f.1, by rw [hf.2.1]; exact h.f.2.1, hf.2.2⟩, h64, by rw [h.eq, hl, List.append_assoc], hlen⟩
theorem L1.read {w3 : World} {p : Option Addr} {kk cp n : Nat} {dl : List Int} {er : Int} (h : L1 w wr K Pr P Fi b8 c d8 s vi vo li lo k) (hk : k ≤ 1048576) (hn : n ≤ 40) (hs : PSt w2 K Pr P Fi c s') (hU : Upd (fun k => k = s.O) wr w2) (vn : VN wr.heap.size s s') (hT : TRead n s s' dl er) (hd : OB wr.heap.size w2 (.slice p kk cp) dl) (hb : Below w2.heap.size w2 w3) :
    ∃ p' q c' w4, (appB #[vo, .slice p kk cp]).run Tryz.prog w3 = .ok (.slice p' q c') w4 ∧ L1 w w4 K Pr P Fi b8 c d8 s' vi (.slice p' q c') li (lo ++ dl) (k + 1) := by
  have hL := (h.lb.step hs (hU.mono (fun _ _ e => .inr (.inl e))) vn).keep hb
  obtain ⟨e1, hsrc⟩ := src_own (hd.keep hb)
  have hlen := h.len
  have hdl : dl.length ≤ 40 ∧ dl ++ s'.l = s.l := by
    obtain ⟨-, -, -, ⟨q1, -, -, q4, q5⟩ | ⟨-, -, q3, q4⟩⟩ := hT
    · rw [q4, q5, q1]; simp
    · rw [q3, q4]
      refine ⟨?_, List.take_append_drop _ _⟩
      rw [List.length_take]; omega
  obtain ⟨p', c', w4, hr, hL4⟩ := hL.appO hsrc (by omega)
  rw [← e1] at hr hL4
  refine ⟨p', _, c', w4, hr, hL4, ⟨by rw [hT.1]; exact h.f.1, by rw [hT.2.1]; exact h.f.2.1, by rw [hT.2.2.1]; exact h.f.2.2⟩, ?_, ?_, ?_⟩
  · have := congrArg List.length hdl.2
    rw [List.length_append] at this
    have := h.l
    omega
  · rw [List.append_assoc, hdl.2]; exact h.eq
  · rw [List.length_append]; omega
/-- loop 2's relation -/
structure L2 (w wr : World) (K Pr P Fi b8 : Nat) (c : Nat → Value) (d8 : Value) (s : St) (vi vo : Value) (li lo : List Int) (j : Nat) : Prop where
  lb : LB w wr K Pr P Fi b8 c d8 s vi vo li lo
  r : Rd s
  e : s.e1 = 0
  l : s.l.length + j ≤ 64
  eq : li = lo ++ s.l
  len : li.length ≤ 41943104
theorem L1.closed {w3 : World} (h : L1 w wr K Pr P Fi b8 c d8 s vi vo li lo k) (hk : k ≤ 1048576) {dl : List Int} {er : Int} (hs : PSt w2 K Pr P Fi c s') (hU : Upd (fun k => k = Fi ∨ k = s.O) wr w2) (vn : VN wr.heap.size s s') (hT : TClose s s' dl er) (hb : Below w2.heap.size w2 w3) : L2 w w3 K Pr P Fi b8 c d8 s' vi vo li lo 0 := by
  obtain ⟨t1, t2, t3, t4, -, -⟩ := hT
  have hl := h.l
  have hlen := h.len
  refine ⟨(h.lb.step hs (hU.mono (fun _ _ e => by rcases e with e | e; exact .inl e; exact .inr (.inl e))) vn).keep hb, ⟨by rw [t2]; rfl, by rw [t1]; rfl⟩, t3, by rw [t4]; omega, by rw [t4]; exact h.eq, ?_⟩
  rw [h.eq, List.length_append]
  omega
theorem L2.last (h : L2 w wr K Pr P Fi b8 c d8 s vi vo li lo k) {n : Nat} (hn : 0 < n) (hs : PSt w2 K Pr P Fi c s') (hU : Upd (fun k => k = s.O) wr w2) (vn : VN wr.heap.size s s') {dl : List Int} {er : Int} (hT : TRead n s s' dl er) (h0 : dl.length = 0) : At (Value.int .u8) 0 w2 vi li ∧ At (Value.int .u8) 0 w2 vo li ∧ Below w.heap.size w w2 := by
  have hL := h.lb.step hs (hU.mono (fun _ _ e => .inr (.inl e))) vn
  have hl : s.l = [] := by
    obtain ⟨-, -, -, ⟨q1, -⟩ | ⟨-, -, q3, -⟩⟩ := hT
    · exact q1
    · rw [q3, List.length_take] at h0
      exact List.eq_nil_of_length_eq_zero (by omega)
  have he := h.eq
  rw [hl, List.append_nil] at he
  exact ⟨hL.oi.at, by rw [he]; exact hL.oo.at, hL.hb⟩
theorem L2.read {p : Option Addr} {kk cp n : Nat} (h : L2 w wr K Pr P Fi b8 c d8 s vi vo li lo k) (hs : PSt w2 K Pr P Fi c s') (hU : Upd (fun k => k = s.O) wr w2) (vn : VN wr.heap.size s s') {dl : List Int} {er : Int} (hT : TRead n s s' dl er) (hd : OB wr.heap.size w2 (.slice p kk cp) dl) (h0 : dl.length ≠ 0) :
    ∃ p' q c' w4, (appB #[vo, .slice p kk cp]).run Tryz.prog w2 = .ok (.slice p' q c') w4 ∧ L2 w w4 K Pr P Fi b8 c d8 s' vi (.slice p' q c') li (lo ++ dl) (k + 1) := by
  have hL := h.lb.step hs (hU.mono (fun _ _ e => .inr (.inl e))) vn
  obtain ⟨e1, hsrc⟩ := src_own hd
  have hlen := h.len
  have hdl : dl ++ s'.l = s.l := by
    obtain ⟨-, -, -, ⟨q1, q2, -, q4, q5⟩ | ⟨-, -, q3, q4⟩⟩ := hT
    · rw [q4] at h0; simp at h0
    · rw [q3, q4]; exact List.take_append_drop _ _
  have hz := congrArg List.length hdl
  rw [List.length_append] at hz
  have hz2 := h.l
  have hz3 := congrArg List.length h.eq
  rw [List.length_append] at hz3
  obtain ⟨p', c', w4, hr, hL4⟩ := hL.appO hsrc (by omega)
  rw [← e1] at hr hL4
  exact ⟨p', _, c', w4, hr, hL4, ⟨by rw [hT.2.1]; exact h.r.1, by rw [hT.1]; exact h.r.2⟩, by rw [hT.2.2.1]; exact h.e, by omega, by rw [List.append_assoc, hdl]; exact h.eq, hlen⟩
end
set_option maxRecDepth 100000 in
set_option maxHeartbeats 400000 in
theorem equalBig_is {w : World} {v v' : Value} {l : List Int} (h64 : l.length ≤ 100000000000) (hv : At (Value.int .u8) 0 w v l) (hv' : At (Value.int .u8) 0 w v' l) : Calls Tryz.prog 8 #[v, v'] w fun e w' => e = .returned (.bool true) ∧ Below w.heap.size w w' := by
  have HV := Lib.hid hv
  have HV' := Lib.hid hv'
  obtain ⟨a, cap, rfl, hl, hcm, -⟩ := hv
  obtain ⟨a', cap', rfl, hl', hcm', -⟩ := hv'
  have HL := Lib.hid h64
  obtain ⟨n, hn⟩ : ∃ n, n = l.length := ⟨_, rfl⟩
  rw [← hn] at h64 hl hl' HV HV' ⊢
  have HN := Lib.hid hn
  have i0 : (n : Int) ≤ 100000000000 := by omega
  clear hn h64 hcm hcm' hl hl' HL
  go_enter Tryz.func8, Tryz.ntmps8
  go_wp2_with fail
  go_loopw [13] (fun iv wr => ∃ i, i ≤ n ∧ iv = .int .i64 (i : Nat) ∧ Hid (Below w.heap.size w wr)) (fun iv _ => n - (intOf iv).toNat)
  case atStart => exact ⟨0, Nat.zero_le _, rfl, Lib.hid (Below.refl _ _)⟩
  case round =>
    obtain ⟨i, hi0, rfl, HB⟩ := hrel
    by_cases hi : i < n
    · have j0 : (0 : Int) ≤ i := by omega
      have j1 : (i : Int) < n := by omega
      have HB1 := Lib.hid HB.out.drew
      rcases At.cellB (HV.out.keep HB1.out) with e | ⟨b, o, rfl, hlt, hc⟩
      · have := HN.out; rw [e] at this; simp at this; omega
      rcases At.cellB (HV'.out.keep HB1.out) with e | ⟨b', o', rfl, hlt', hc'⟩
      · have := HN.out; rw [e] at this; simp at this; omega
      have c1 := hc i (by rw [← HN.out]; exact hi)
      have c2 := hc' i (by rw [← HN.out]; exact hi)
      generalize l.getD i 0 = x at *
      clear hc hc' hlt hlt' HB
      go_upto_region 6 with fail
      go_region
      go_wp2_with fail
      go_roundw
      case rel => exact ⟨i + 1, by omega, by go_num, HB1⟩
      case measure => simp [intOf]; omega
    · obtain rfl : i = n := by omega
      go_wp2_with fail
      go_ret
      exact ⟨rfl, HB.out⟩
section
attribute [local go_sem ↓] ld_ans st_ans bd_call appB_eq
set_option maxRecDepth 100000 in
set_option maxHeartbeats 1000000 in
theorem pipes_any (w : World) {a : Option Addr} {N C : Nat} (hl : Els w a N) (hN : N ≤ 1048576) (n0 : Int) :
    Calls Tryz.prog 3 #[.slice a N C, .int .i64 n0] w fun e w' => e = .returned (.bool true) ∧ Below w.heap.size w w' := by
  have hbd10 := bd_call10
  have HS := Lib.hid (started_is w)
  have HN := Lib.hid hN
  have HL := Lib.hid hl
  clear hl hN
  go_enter Tryz.func3, Tryz.ntmps3
  go_upto_region 4 with (go_at_call 4; refine HS.out.mono ?_; rintro e1 w1 ⟨K, D, B, P, Wh, Fi, Pr, R, M, so, sp, c, rfl, hks, hB, hb1⟩)
  have HKS := Lib.hid hks
  have HB := Lib.hid hB
  have HB1 := Lib.hid hb1
  have HAP := Lib.hid (ask_pipe hks.kb hks.kp.fi hks.kp.pi (A := #[.int .i64 10, .int .i64 0, .int .i64 0, .int .i64 0, .string ByteArray.empty, .string ByteArray.empty, .slice none 0 0]) rfl rfl)
  clear hks hB hb1 HS
  go_upto_region 5 with (go_at_call 5; refine HAP.out.mono ?_; rintro e2 w2 ⟨X, rfl, hX, hone, hu, ⟨s, dl, d, er, ea, eb, hs2, hf2, hd2, rfl, hT, hU⟩⟩; have hst := st0_new w2 (T := 33) (c := ansL) (cs := ansV er ea eb d) rfl (by kernel_rfl) hone; unfold ansL at hst)
  have HL1 := Lib.hid (L1.start HB1.out HB.out HKS.out hs2 hT hU hX)
  obtain ⟨-, -, -, -, -, -, rfl, rfl, rfl⟩ := hT
  clear hs2 hf2 hd2 hX hone hu hU hst HKS HB HB1 HAP hbd10
  generalize w2.alloc (.cells (ansV 0 0 1 d) 33) = w3 at *
  generalize w2.heap.size = b8 at *
  have HLB := Lib.hid HL1.out.lb
  have c0 := HLB.out.r8.cell 0
  rw [show (ansV 0 0 1 d)[0]? = some (.int .i64 0) from rfl] at c0
  obtain ⟨n, hn⟩ : ∃ n : Nat, (n : Int) = 1 + n0 % 40 := ⟨(1 + n0 % 40).toNat, by have := Int.emod_nonneg n0 (show (40 : Int) ≠ 0 by decide); omega⟩
  have hn1 : 0 < n ∧ n ≤ 40 := by have := Int.emod_nonneg n0 (show (40 : Int) ≠ 0 by decide); have := Int.emod_lt_of_pos n0 (show (0 : Int) < 40 by decide); omega
  have i40 : 0 ≤ n0 % 40 ∧ n0 % 40 < 40 := ⟨Int.emod_nonneg n0 (show (40 : Int) ≠ 0 by decide), Int.emod_lt_of_pos n0 (show (0 : Int) < 40 by decide)⟩
  have i41 := i40.1
  have i42 := i40.2
  have HW := Lib.hid (within_any n0 40 w3 (by decide) (by decide))
  have HNN := Lib.hid hn1
  clear i40
  go_upto_region 8 with (go_at_call 6; refine HW.out.mono ?_; rintro e4 w4 ⟨rfl, rfl⟩)
  rw [← hn]
  clear hn i41 i42 HW hn1
  go_wp2_with fail
  go_loopw [9, 10, 37] (fun vi vo kv wr => ∃ k s li lo, k ≤ N ∧ kv = .int .i64 (k : Nat) ∧ Hid (L1 w wr K Pr P Fi b8 c d s vi vo li lo k)) (fun _ _ kv _ => N - (intOf kv).toNat)
  case atStart => exact ⟨0, _, _, _, Nat.zero_le _, rfl, HL1⟩
  case round =>
    obtain ⟨k, s, li, lo, hk0, rfl, HL2⟩ := hrel
    have HK1 : Hid (k ≤ 1048576) := Lib.hid (Nat.le_trans hk0 HN.out)
    by_cases hk : k < N
    · have j0 : (0 : Int) ≤ k := by omega
      have j1 : (k : Int) < N := by omega
      have jN : (N : Int) ≤ 1048576 := by have := HN.out; omega
      obtain hN0 | ⟨b, off, rfl, hlt, hel⟩ := HL.out
      · omega
      obtain ⟨ad, bs, cp, hce, hat, hn0⟩ := hel k hk
      have HN0 := Lib.hid hn0
      have hb2 := HL2.out.lb.hb
      have ce : wr.cell? ⟨b, off + k, none⟩ = some (.slice ad bs.length cp) := (hb2.cell (p := ⟨b, off + k, none⟩) hlt).trans hce
      have hatr := At.upd hat (Upd.below (S := fun _ => False) hb2) (fun _ _ _ _ e => e)
      have hcp : bs.length ≤ cp := by obtain ⟨_, c', e, h1, _⟩ := hat; injection e with _ _ e3; omega
      have HAT := Lib.hid hat
      have hatF : ∀ w6, Below w.heap.size w w6 → At (Value.int .u8) 0 w6 (.slice ad bs.length cp) bs := fun w6 h6 => hat.keep h6
      clear hel hat hce hn0 hb2
      obtain ⟨m, hm⟩ : ∃ m, m = bs.length := ⟨_, rfl⟩
      obtain ⟨mm, hmm⟩ : ∃ mm, mm = min m 256 := ⟨_, rfl⟩
      have hatm : At (Value.int .u8) 0 wr (.slice ad mm cp) (bs.take mm) := at_take hatr (by omega)
      have hml : (bs.take mm).length = mm := by rw [List.length_take]; omega
      have hm1 : mm = m ∧ ¬ (256 : Int) < m ∨ mm = 256 ∧ (256 : Int) < m := by omega
      have hmc : (mm : Int) ≤ cp := by omega
      have HMM : Hid (mm ≤ 256 ∧ mm ≤ cp) := Lib.hid (by omega)
      rw [← hm] at ce
      have HAM := Lib.hid hatm
      have HML := Lib.hid hml
      have HATF : ∀ w6, Below w.heap.size w w6 → At (Value.int .u8) 0 w6 (.slice ad mm cp) (bs.take mm) := fun w6 h6 => at_take (hatF w6 h6) (by omega)
      have HSRC : Hid (∀ w6 m2, Below w.heap.size w w6 → Src w6 ad cp ((bs.take mm).take m2)) := Lib.hid fun w6 m2 h6 => src_at (HATF w6 h6) HN0.out
      have HLEN : Hid (∀ (s : St) (m2 : Nat), s.l.length ≤ 64 → m2 = min (bs.take mm).length (64 - s.l.length) → ((bs.take mm).take m2).length = m2 ∧ (m2 : Int) ≤ cp ∧ (m2 : Int) ≤ mm ∧ (s.l ++ (bs.take mm).take m2).length ≤ 64) := Lib.hid fun s m2 hs e => by
        rw [hml] at e
        have h1 : ((bs.take mm).take m2).length = m2 := by rw [List.length_take, hml]; omega
        refine ⟨h1, by omega, by omega, ?_⟩
        rw [List.length_append, h1]
        omega
      clear hatF HATF
      have r1 := HL2.out.lb.r8.cell 1
      have r2 := HL2.out.lb.r8.cell 2
      rw [show (ansV 0 0 1 d)[1]? = some (.int .i64 0) from rfl] at r1
      rw [show (ansV 0 0 1 d)[2]? = some (.int .i64 1) from rfl] at r2
      have HAW := Lib.hid (ask_write HL2.out.lb.ps (by rw [HL2.out.f.2.1]; rfl) (by rw [HL2.out.f.1]; rfl) HL2.out.l HL2.out.f.2.2 (A := #[.int .i64 8, .int .i64 1, .int .i64 0, .int .i64 0, .string ByteArray.empty, .string ByteArray.empty, .slice ad mm cp]) rfl rfl rfl (bs := bs.take mm) (ad := ad) (cp := cp) (by rw [hml]; rfl) (by rw [hml]; exact hatm) HN0.out (by rw [hml]; exact HMM.out.1))
      have hbd8 := bd_call8
      clear hatr hatm hml hm hmm hcp hlt
      rcases hm1 with ⟨rfl, hm1⟩ | ⟨rfl, hm1⟩
      all_goals
        go_upto_region 14 with (go_at_call 5; refine HAW.out.mono ?_; rintro e5 w5 ⟨X, rfl, hX, hone, hu, ⟨s', dl, d5, er, ea, eb, hs5, hf5, hd5, rfl, ⟨hT, hV⟩, hU⟩⟩; have hst := st0_new w5 (T := 33) (c := ansL) (cs := ansV er ea eb d5) rfl (by kernel_rfl) hone; unfold ansL at hst)
      all_goals
        have hal := Go.Joins.below_alloc1 w5 (.cells (ansV er ea eb d5) 33)
        have hr6 := row_new w5 33 (ansV er ea eb d5)
        have e0 := hr6.cell 0
        have e1 := hr6.cell 1
        rw [show (ansV er ea eb d5)[0]? = some (.int .i64 er) from rfl] at e0
        rw [show (ansV er ea eb d5)[1]? = some (.int .i64 ea) from rfl] at e1
        have HAL := Lib.hid hal
        have HS5 := Lib.hid hs5
        have HU5 := Lib.hid hU
        have HV5 := Lib.hid hV
        clear hal hr6 hst hu hf5 hd5 hX hone hs5 hU hV r1 r2 hbd8 HAW ce
        generalize w5.alloc (.cells (ansV er ea eb d5) 33) = w6 at *
        generalize w5.heap.size = b13 at e0 e1 ⊢
        obtain ⟨tfs, tfd, te, tdl, ⟨t1, t2, rfl, t4⟩ | ⟨m2, hm2, rfl, rfl, t4⟩⟩ := hT
        · have hL7 := (HL2.out.waited HS5.out HU5.out HV5.out ⟨tfs, tfd, te⟩ t4).keep HAL.out
          clear t1 t2
          go_upto_region 18 with fail
          have HL7 := Lib.hid hL7
          have q1 := HL7.out.lb.r8.cell 1
          rw [show (ansV 0 0 1 d)[1]? = some (.int .i64 0) from rfl] at q1
          have HG := Lib.hid (got_is HL7.out.lb.ps ⟨by rw [HL7.out.f.2.1]; rfl, by rw [HL7.out.f.1]; rfl⟩ HL7.out.l (.inr HL7.out.f.2.2) HNN.out.1 (by have := HNN.out.2; omega))
          clear hL7 e0 e1 HS5 HU5 HV5 HAL HAT HAM HL2 tfs tfd te tdl t4
          go_upto_region 19 with (go_at_call 7; refine HG.out.mono ?_; rintro e8 w8 ⟨s8, p8, k8, cp8, dl8, er8, rfl, hs8, hd8, hT8, hV8, hE8, hU8⟩; obtain ⟨p9, q9, c9, w9, hap9, hL9⟩ := HL7.out.read HK1.out HNN.out.2 hs8 hU8 hV8 hT8 hd8 (Below.refl _ _); have HL9 := Lib.hid hL9; clear hs8 hU8 hV8 hT8 hd8 hL9)
          rcases hE8 with rfl | rfl
          all_goals
            go_wp2_with fail
            go_roundw
            case rel => exact ⟨k + 1, _, _, _, by omega, by go_num, HL9⟩
            case measure => simp [intOf]; omega
        · have hb6 := ((HL2.out.lb.step HS5.out (HU5.out.mono (fun _ _ e => .inr e)) HV5.out).keep HAL.out).hb
          obtain ⟨g1, i7, i8, g4⟩ := HLEN.out s m2 HL2.out.l hm2
          obtain ⟨p7, q7, c7, w7, hap7, hL7⟩ := HL2.out.wrote HK1.out HS5.out HU5.out HV5.out ⟨tfs, tfd, te⟩ t4 (by rw [t4]; exact g4) HAL.out (HSRC.out w6 m2 hb6) g1
          clear hm2 hb6 g1 g4
          go_upto_region 18 with fail
          have HL7 := Lib.hid hL7
          have q1 := HL7.out.lb.r8.cell 1
          rw [show (ansV 0 0 1 d)[1]? = some (.int .i64 0) from rfl] at q1
          have HG := Lib.hid (got_is HL7.out.lb.ps ⟨by rw [HL7.out.f.2.1]; rfl, by rw [HL7.out.f.1]; rfl⟩ HL7.out.l (.inr HL7.out.f.2.2) HNN.out.1 (by have := HNN.out.2; omega))
          clear hL7 e0 e1 HS5 HU5 HV5 HAL HAT HAM HL2 tfs tfd te tdl t4
          go_upto_region 19 with (go_at_call 7; refine HG.out.mono ?_; rintro e8 w8 ⟨s8, p8, k8, cp8, dl8, er8, rfl, hs8, hd8, hT8, hV8, hE8, hU8⟩; obtain ⟨p9, q9, c9, w9, hap9, hL9⟩ := HL7.out.read HK1.out HNN.out.2 hs8 hU8 hV8 hT8 hd8 (Below.refl _ _); have HL9 := Lib.hid hL9; clear hs8 hU8 hV8 hT8 hd8 hL9)
          rcases hE8 with rfl | rfl
          all_goals
            go_wp2_with fail
            go_roundw
            case rel => exact ⟨k + 1, _, _, _, by omega, by go_num, HL9⟩
            case measure => simp [intOf]; omega
    · obtain rfl : k = N := by omega
      have jN : (k : Int) ≤ 1048576 := by have := HN.out; omega
      have r2 := HL2.out.lb.r8.cell 2
      rw [show (ansV 0 0 1 d)[2]? = some (.int .i64 1) from rfl] at r2
      have HAC := Lib.hid (ask_close HL2.out.lb.ps HL2.out.f.2.2 HL2.out.f.1 HL2.out.f.2.1 (A := #[.int .i64 6, .int .i64 1, .int .i64 0, .int .i64 0, .string ByteArray.empty, .string ByteArray.empty, .slice none 0 0]) rfl rfl rfl)
      have hbd6 := bd_call6
      go_upto_region 24 with (go_at_call 5; refine HAC.out.mono ?_; rintro e5 w5 ⟨X, rfl, hX, hone, hu, ⟨s', dl, d5, er, ea, eb, hs5, hf5, hd5, rfl, ⟨hT, hV⟩, hU⟩⟩; have hst := st0_new w5 (T := 33) (c := ansL) (cs := ansV er ea eb d5) rfl (by kernel_rfl) hone; unfold ansL at hst)
      have hal := Go.Joins.below_alloc1 w5 (.cells (ansV er ea eb d5) 33)
      have e0 := (row_new w5 33 (ansV er ea eb d5)).cell 0
      rw [show (ansV er ea eb d5)[0]? = some (.int .i64 er) from rfl] at e0
      have HL3 := Lib.hid (HL2.out.closed HK1.out hs5 hU hV hT hal)
      have he0 : er = 0 := hT.2.2.2.2.1
      subst he0
      clear hal hst hu hf5 hd5 hX hone hs5 hU hV hT r2 hbd6 HAC
      generalize w5.alloc (.cells (ansV 0 ea eb d5) 33) = w6 at *
      generalize w5.heap.size = b13 at *
      go_wp2_with fail
      go_loopw [10, 102] (fun vo jv wr => ∃ j s lo, j ≤ 64 ∧ jv = .int .i64 (j : Nat) ∧ Hid (L2 w wr K Pr P Fi b8 c d s u9 vo li lo j)) (fun _ jv _ => 70 - (intOf jv).toNat)
      case atStart => exact ⟨0, _, _, by omega, rfl, HL3⟩
      case round =>
        obtain ⟨j, s2, lo2, hj0, rfl, HL4⟩ := hrel
        have i1 : (j : Int) < 70 := by omega
        have i2 : (0 : Int) ≤ j := by omega
        have q1 := HL4.out.lb.r8.cell 1
        rw [show (ansV 0 0 1 d)[1]? = some (.int .i64 0) from rfl] at q1
        have HG := Lib.hid (got_is HL4.out.lb.ps HL4.out.r (by have := HL4.out.l; omega) (.inl HL4.out.e) HNN.out.1 (by have := HNN.out.2; omega))
        go_upto_region 29 with (go_at_call 7; refine HG.out.mono ?_; rintro e8 w8 ⟨s8, p8, k8, cp8, dl8, er8, rfl, hs8, hd8, hT8, hV8, hE8, hU8⟩)
        have he8 : er8 = 0 := by
          obtain ⟨-, -, -, ⟨-, q, -⟩ | ⟨-, q, -⟩⟩ := hT8
          · rw [HL4.out.e] at q; cases q
          · exact q
        subst he8
        clear hE8
        have hk8 := (src_own hd8).1
        by_cases h0 : k8 = 0
        · have HL := Lib.hid (HL4.out.last HNN.out.1 hs8 hU8 hV8 hT8 (by omega))
          have HQ := Lib.hid (equalBig_is (by have := HL4.out.len; omega) HL.out.1 HL.out.2.1)
          clear hs8 hU8 hV8 hT8 hd8 hk8
          subst h0
          go_wp2_with (go_at_call 8; refine HQ.out.mono ?_; rintro e9 w9 ⟨rfl, hb9⟩; have HB9 := Lib.hid hb9; clear hb9)
          go_ret
          exact ⟨rfl, HL.out.2.2.trans (HB9.out.mono HL.out.2.2.size)⟩
        · obtain ⟨p9, q9, c9, w9, hap9, hL9⟩ := HL4.out.read hs8 hU8 hV8 hT8 hd8 (by omega)
          have HL9 := Lib.hid hL9
          have hj1 : j + 1 ≤ 64 := by have := hL9.l; omega
          clear hs8 hU8 hV8 hT8 hd8 hL9 hk8
          go_wp2_with fail
          go_roundw
          case rel => exact ⟨j + 1, _, _, hj1, by go_num, HL9⟩
          case measure => simp [intOf]; omega
end
end Go.Proofs.YthdpeecahpedeaaGreatDoor
