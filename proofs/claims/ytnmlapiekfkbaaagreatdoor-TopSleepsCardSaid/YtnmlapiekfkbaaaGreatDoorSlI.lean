/- The walk of spread's Leave at any run. Walks of the kernel's process at wait, and at map. The walks of the kernel's calls CPid and CSleep, and of Ask at who sleeps. The walk of kernel.Ask at who sleeps. -/
import Derived.Test.YtnmlapiekfkbaaaGreatDoorProcPlain
import Derived.Test.YtnmlapiekfkbaaaGreatDoorKerG
import Derived.Test.YtnmlapiekfkbaaaGreatDoorSlB
import Derived.Test.YtnmlapiekfkbaaaGreatDoorSpG
import Derived.Test.YtnmlapiekfkbaaaGreatDoorSlG
namespace Go.Proofs.YtnmlapiekfkbaaaGreatDoor
open Go.RowKit
set_option linter.unusedVariables false
set_option linter.unusedSimpArgs false
def slT (x : Value) (a b c : Option Value) : Sem Value := Instr.sliceAt 122 x a b c
theorem sl_task (x : Value) (a b c : Option Value) : Instr.sliceAt 122 x a b c = slT x a b c := rfl
theorem slT_front (w : World) {T n cap k : Nat} (h : k ≤ cap) : (slT (.slice (some ⟨T, 0, none⟩) n cap) none (some (.int .i64 k)) (some (.int .i64 k))).run Tryz.prog w = .ok (.slice (some ⟨T, 0, none⟩) k k) w := by
  have h1 : (k : Int) ≤ cap := by omega
  simp [slT, Instr.sliceAt, Instr.slice, Instr.sliceBounds, Instr.sliceBound, asIntOf, run_underlying Tryz.underlying122, h1, h, go_sem]
  (try (intro q; omega))
/-- where what lies behind place k begins -/
def behind (T k cap : Nat) : Addr := if cap = k + 1 then ⟨T, 0, none⟩ else ⟨T, (k + 1) * 15, none⟩
theorem slT_back (w : World) {T n cap k : Nat} (h : k + 1 ≤ n) (hc : n ≤ cap) : (slT (.slice (some ⟨T, 0, none⟩) n cap) (some (.int .i64 ((k : Int) + 1))) none none).run Tryz.prog w = .ok (.slice (some (behind T k cap)) (n - (k + 1)) (cap - (k + 1))) w := by
  have h1 : (k : Int) + 1 ≤ n := by omega
  have h0 : (0 : Int) ≤ (k : Int) + 1 := by omega
  have h2 : ((k : Int) + 1).toNat = k + 1 := by omega
  simp [slT, Instr.sliceAt, Instr.slice, Instr.sliceBounds, Instr.sliceBound, asIntOf, run_underlying Tryz.underlying122, h1, h0, h2, go_sem, behind]
  (try (split <;> rfl))
/-- append's run at a slice cut at i, and what lies behind i -/
def leaveL (l : List Tk) (i : Nat) (m : Nat) : List Tk := fillG (l.eraseIdx i) m
section
variable {w w' : World} {R cap : Nat} {ad : Option Addr} {cpus ticks pin : Int} {l : List Tk} {T i : Nat} {C X : Array Value} {x : Tk}
theorem tks_cut (hC : TksIn C pin l) (hc : l.length * 15 ≤ C.size) (hi : i < l.length) : TksIn (C.toList.take (i * 15) ++ (C.toList.drop ((i + 1) * 15)).take ((l.length - 1 - i) * 15)).toArray pin (l.eraseIdx i) := by
  have hlen : (C.toList.take (i * 15)).length = i * 15 := by rw [List.length_take]; simp; omega
  intro j y hy
  rw [List.getElem?_eraseIdx] at hy
  by_cases hj : j < i
  · rw [if_pos hj] at hy
    refine (hC j y hy).of fun k hk => ?_
    rw [List.getElem?_toArray, List.getElem?_append_left (by omega), List.getElem?_take, if_pos (by omega)]
    simp
  · rw [if_neg hj] at hy
    have hj2 := (List.getElem?_eq_some_iff.1 hy).1
    refine (hC (j + 1) y hy).of fun k hk => ?_
    rw [List.getElem?_toArray, List.getElem?_append_right (by omega), hlen, List.getElem?_take, if_pos (by omega), List.getElem?_drop]
    simp only [Array.getElem?_toList]
    congr 1
    omega
theorem cut_any (h : RunG w R (some ⟨T, 0, none⟩) cap cpus ticks pin l) (hi : i < l.length) : ∃ T' c w', (appT #[.slice (some ⟨T, 0, none⟩) i i, .slice (some (behind T i cap)) (l.length - (i + 1)) (cap - (i + 1))]).run Tryz.prog w = .ok (.slice (some ⟨T', 0, none⟩) (l.length - 1) c) w' ∧ RunG (w'.setCell ⟨R, 3, none⟩ (.slice (some ⟨T', 0, none⟩) (l.length - 1) c)) R (some ⟨T', 0, none⟩) c cpus ticks pin (l.eraseIdx i) ∧ (∃ v, w'.cell? ⟨R, 3, none⟩ = some v) ∧ w'.frozen? ⟨R, 3, none⟩ = false ∧ (T' = T ∨ w.heap.size ≤ T') ∧ Upd (fun _ => False) w w' := by
  obtain ⟨T0, C, e, ht⟩ := h.rows (by omega)
  injection e with e
  injection e with e
  subst e
  obtain ⟨i0, hi0, hz0, hz1, hz2⟩ := info_parts infoT
  have hsz := ht.sz
  have hln := ht.len
  have hml := ht.ml
  have hel : (l.eraseIdx i).length = l.length - 1 := by rw [List.length_eraseIdx, if_pos hi]
  by_cases h0 : l.length - 1 - i = 0
  · rw [show l.length - (i + 1) = 0 by omega]
    have hr := run_append_room_cells (P := Tryz.prog) (w := w) 122 122 128 i0 Tryz.underlying122 hi0 T 0 i i (behind T i cap) 0 (cap - (i + 1)) [] (by simp) (fun j u hu => by simp at hu) (fun u hu => by simp at hu) (by omega) (fun j hj => by simp at hj) (fun j hj => by simp at hj)
    have hq := h.r
    refine ⟨T, i, w, by rw [show l.length - 1 = i + 0 by omega]; exact hr, hq.lay (C := C) (l' := l.eraseIdx i) ⟨ht.ne, ht.row, by omega, by have := ht.mx; omega, by omega, by omega, fun j y hy => ?_⟩ hel.symm, hq.c3, hq.fz 3, .inl rfl, Upd.refl _ _⟩
    rw [List.getElem?_eraseIdx] at hy
    by_cases hj : j < i
    · rw [if_pos hj] at hy; exact ht.tks j y hy
    · rw [if_neg hj] at hy
      have := (List.getElem?_eq_some_iff.1 hy).1
      omega
  · rw [show l.length - (i + 1) = l.length - 1 - i by omega, show behind T i cap = ⟨T, (i + 1) * 15, none⟩ from if_neg (by omega)]
    obtain ⟨v', w', hr, ho, hg⟩ := run_append_arg_grows (P := Tryz.prog) (w := w) 122 122 128 i0 _ 15 112 Tryz.underlying122 hi0 hz0 hz1 hz2 rfl (by decide) ⟨T, 0, none⟩ i i (C.toList.take (i * 15)) (by rw [List.length_take]; simp; omega) (fun j u hu => by
      rw [List.getElem?_take] at hu
      split at hu
      · rw [Addr.add_lit, ht.row.cell]; simpa using hu
      · cases hu) ⟨T, (i + 1) * 15, none⟩ (l.length - 1 - i) (cap - (i + 1)) ((C.toList.drop ((i + 1) * 15)).take ((l.length - 1 - i) * 15)) (by rw [List.length_take, List.length_drop]; simp; omega) (fun j u hu => by
      rw [List.getElem?_take] at hu
      split at hu
      · rw [List.getElem?_drop] at hu
        rw [Addr.add_lit, ht.row.cell]; simpa using hu
      · cases hu) (by omega) (by unfold maxLen; omega) (by omega)
    rw [show i + (l.length - 1 - i) = l.length - 1 by omega] at ho
    have hbg : Below w.heap.size w w' := (Below.refl _ _).grown hg (Nat.le_refl _) (fun k hk => by cases hk)
    obtain ⟨T', c, C', rfl, hT, htr⟩ := tkr_own (l := l.eraseIdx i) (pin := pin) (R := R) ho (by omega) h.lt hel (by omega) (tks_cut ht.tks (by omega) hi)
    have hq := (h.keep hbg).r
    exact ⟨T', c, w', hr, hq.lay htr hel.symm, hq.c3, hq.fz 3, .inr hT, Upd.below hbg⟩
theorem idG_some {t : Int} (h : idG l t = some i) : ∃ x, l[i]? = some x ∧ x.t = t ∧ ∀ (j : Nat) (y : Tk), j < i → l[j]? = some y → (y.t == t) = false := by
  unfold idG at h
  rw [List.findIdx?_eq_some_iff_getElem] at h
  obtain ⟨h1, h2, h3⟩ := h
  refine ⟨l[i], List.getElem?_eq_getElem h1, by simpa using h2, fun j y hj hy => ?_⟩
  have := h3 j hj
  obtain ⟨h4, h5⟩ := List.getElem?_eq_some_iff.1 hy
  subst h5
  simpa using this
attribute [local go_sem ↓] ld_task bs_task sl_task
set_option maxRecDepth 100000 in
set_option maxHeartbeats 1000000 in
theorem leaveG_is {m : Nat} (h : RunG w R ad cap m ticks (onePin m) l) {t : Int} (ht : idG l t = some i) (hm : m ≤ 8) : Calls Tryz.prog 110 #[.pointer (some ⟨R, 0, none⟩), .int .i64 t] w fun e w' => e = .returned (.int .i64 0) ∧ (∃ T c, RunG w' R (some ⟨T, 0, none⟩) c m ticks (onePin m) (leaveL l i m) ∧ (ad = some ⟨T, 0, none⟩ ∨ w.heap.size ≤ T)) ∧ Upd (rS R ad) w w' := by
  obtain ⟨x0, hx0, hxt, hfirst⟩ := idG_some ht
  have hil := (List.getElem?_eq_some_iff.1 hx0).1
  have c3 := h.c3
  obtain ⟨T, C, rfl, hr⟩ := h.rows (by omega)
  have HH := Lib.hid h
  have HR := Lib.hid hr
  have hmx := h.mx
  have hcap := hr.len
  obtain ⟨n, hn⟩ : ∃ n, n = l.length := ⟨_, rfl⟩
  rw [← hn] at c3 hmx hil hcap
  have HN := Lib.hid hn
  have HX := Lib.hid (And.intro hx0 (And.intro hxt hfirst))
  clear h hn ht hx0 hxt hfirst hr
  go_enter Tryz.func110, Tryz.ntmps110
  go_wp2_with fail
  go_loop [11] (fun kv => ∃ k : Nat, k ≤ i ∧ kv = .int .i64 k) (fun kv => n - (intOf kv).toNat)
  case atStart => exact ⟨0, Nat.zero_le _, rfl⟩
  case round =>
    obtain ⟨k, hk0, rfl⟩ := hrel
    have j1 : (k : Int) < n := by omega
    obtain ⟨x, hx⟩ : ∃ x, l[k]? = some x := ⟨l[k]'(by have := HN.out; omega), List.getElem?_eq_getElem _⟩
    have t0 := (HR.out.cell (k * 15)).trans (HR.out.at hx).c0
    by_cases hk : k = i
    · subst hk
      have hxt : x.t = t := by have := HX.out.1; rw [hx] at this; injection this with this; subst this; exact HX.out.2.1
      rw [hxt] at t0
      clear hx hxt
      obtain ⟨T', c, w4, hap, hG4, ⟨u3, e3⟩, f3, hT, hU4⟩ := cut_any HH.out.drew (i := k) (by have := HN.out; omega)
      rw [← HN.out] at hap hG4
      have hs1 := fun w => slT_front w (T := T) (n := n) (cap := cap) (k := k) (by have := HR.out.len; have := HN.out; omega)
      have hs2 := fun w => slT_back w (T := T) (n := n) (cap := cap) (k := k) (by omega) (by have := HR.out.len; have := HN.out; omega)
      have hap : (Builtin.append_ #[122, 122] 122 #[.slice (some ⟨T, 0, none⟩) k k, .slice (some (behind T k cap)) (n - (k + 1)) (cap - (k + 1))]).run Tryz.prog w.drew = .ok (.slice (some ⟨T', 0, none⟩) (n - 1) c) w4 := hap
      have HG4 := Lib.hid hG4
      have HU5 := Lib.hid ((((Upd.drew w).trans hU4).mono (S' := rS R (some ⟨T, 0, none⟩)) (fun _ _ e => e.elim)).trans (Upd.set w4 (i := 3) (.slice (some ⟨T', 0, none⟩) (n - 1) c) (S := rS R (some ⟨T, 0, none⟩)) (b := R) (.inl rfl)))
      have HT3 : Hid ((some (⟨T, 0, none⟩ : Addr) = some ⟨T', 0, none⟩) ∨ w.heap.size ≤ T') := Lib.hid (by rcases hT with q | q; exact .inl (by rw [q]); exact .inr q)
      have n0 : (0 : Int) ≤ k := by omega
      have n1 : (k : Int) + 1 ≤ n := by omega
      have n2 : (n : Int) ≤ cap := by omega
      have n3 : IntKind.i64.wrap ((k : Int) + 1) = k + 1 := IntWalk.i64_in _ (by omega)
      clear hG4 hU4 hT
      go_upto_region 5 with fail
      go_region_law (refine step_append_run rfl (.tmp 31) (.tmp 38) 122 rfl hap ?_)
      all_goals
        clear hap c3 hs1 hs2 e3 f3 t0
        generalize w4.setCell ⟨R, 3, none⟩ (.slice (some ⟨T', 0, none⟩) (n - 1) c) = w5 at *
        have HFI := Lib.hid (fillG_is HG4.out (onePin_ok hm) (by omega))
        go_wp2_with (go_at_call 72; refine HFI.out.mono ?_; rintro e7 w7 ⟨rfl, hr7, hu7⟩; have HR7 := Lib.hid hr7; have HU7 := Lib.hid (HU5.out.trans' hu7 (fun k hk e => by
          rcases e with e | ⟨a, e1, e2⟩
          · exact .inl e
          · injection e1 with e1
            subst e1
            rcases HT3.out with q | q
            · exact .inr ⟨_, q, e2⟩
            · have e2 : k = T' := e2
              omega)); clear hr7 hu7)
        go_ret
        exact ⟨rfl, ⟨_, _, HR7.out, HT3.out⟩, HU7.out⟩
    · have hxt : (x.t == t) = false := HX.out.2.2 k x (by omega) hx
      clear hx
      go_wp2_with fail
      go_round
      case rel => exact ⟨k + 1, by omega, by go_num⟩
      case measure => simp [intOf]; omega
end
end Go.Proofs.YtnmlapiekfkbaaaGreatDoor
namespace Go.Proofs.YtnmlapiekfkbaaaGreatDoor
open Go.RowKit
set_option linter.unusedVariables false
set_option linter.unusedSimpArgs false
theorem bd_eab (w : World) (e a b : Int) : (bdR 34 #[(0, .int .i64 e), (1, .int .i64 a), (2, .int .i64 b)]).run Tryz.prog w = .ok (.agg (ansV e a b (.slice none 0 0))) w := by kernel_rfl
theorem ansN3 (e a b : Int) : (ansV e a b (.slice none 0 0)).size = 11 ∧ (ansV e a b (.slice none 0 0)).all (·.oneCell') = true := ⟨rfl, ansV_one _ _ _ rfl⟩
theorem KT.u0 {w0 w1 w2 : World} {k : KC} {s : KSt} (h : KT w0 k s) {S : Nat → Prop} (hu : Upd S w1 w2) (hS : ∀ j, S j → s.tag j ≠ 0) : Upd (fun j => s.tag j ≠ 0) w1 w2 ∧ Upd (fun j => j < w0.heap.size) w1 w2 := ⟨hu.mono fun j _ e => hS j e, hu.mono fun j _ e => h.lt (hS j e)⟩
section
variable {w0 w : World} {k : KC} {s : KSt} {p : Nat} {A : Array Value} {T : KSt → Int → Int → Int → Prop}
attribute [local go_sem ↓] ld_ans st_ans ld_call bd_ans
theorem Grew.mB {B0 : Nat} {m m' : MS} {b : Nat} {a r : Int} {new : List Nat} (g : Grew B0 m m' b a r new) {M so j : Nat} (hj : mB M so m' j) : mB M so m j ∨ B0 ≤ j := by
  rcases hj with q | q | q | ⟨x, q⟩ | q
  · exact .inl (.inl q)
  · exact .inl (.inr (.inl q))
  · rcases g.pv with e | ⟨x, h1, e⟩
    · exact .inl (.inr (.inr (.inl (e ▸ q))))
    · rw [e] at q
      injection q with q
      exact .inr (by omega)
  · exact .inl (.inr (.inr (.inr (.inl ⟨x, by rw [← g.S]; exact q⟩))))
  · rw [g.pl] at q
    rcases List.mem_append.mp q with q | q
    · exact .inl (.inr (.inr (.inr (.inr q))))
    · exact .inr (g.nw j q)
end
end Go.Proofs.YtnmlapiekfkbaaaGreatDoor
namespace Go.Proofs.YtnmlapiekfkbaaaGreatDoor
open Go.RowKit
set_option linter.unusedVariables false
set_option linter.unusedSimpArgs false
theorem bd_pid (w : World) (a b : Int) : (bdR 34 #[(1, .int .i64 a), (2, .int .i64 b)]).run Tryz.prog w = .ok (.agg (ansV 0 a b (.slice none 0 0))) w := by kernel_rfl
section
variable {w0 w : World} {k : KC} {s : KSt} {p : Nat} {A : Array Value}
attribute [local go_sem ↓] ld_ans st_ans ld_call bd_ans
set_option maxRecDepth 100000 in
set_option maxHeartbeats 1000000 in
theorem proc_pid (h : KT w0 k s) (q1 : 1 ≤ p) (q16 : p ≤ 16) (hl : (s.t p).st ≠ 0) (hA : A.size = 7) (ha : A[0]? = some (.int .i64 30)) :
    Spec w0 (KOut w0.heap.size k s.tag (fun s' e a b => e = 0 ∧ a = p ∧ b = (s.t p).par ∧ s' = s)) 52 #[.pointer (some ⟨k.K, 0, none⟩), .int .i64 p, .agg A] := by
  intro w h0
  have ok := kout_ok (k := k) (w0 := w0) (tag0 := s.tag) h.tz (fun s' e a b => e = 0 ∧ a = p ∧ b = (s.t p).par ∧ s' = s)
  have hb1 := Go.Joins.below_alloc1 w (.cells A 37)
  have hal : Below w.heap.size w ((w.alloc (.cells A 37)).alloc (.cells ansZ 34)) := hb1.trans ((Go.Joins.below_alloc1 _ _).mono hb1.size)
  have hr1 := (row_new w 37 A).alloc (.cells ansZ 34)
  have hr2 := row_new (w.alloc (.cells A 37)) 34 ansZ
  rw [size_alloc1] at hr2
  have d0 : ((w.alloc (.cells A 37)).alloc (.cells ansZ 34)).cell? ⟨w.heap.size, 0, none⟩ = some (.int .i64 30) := by rw [hr1.cell, ha]
  have hk := (h.keep h0).keep hal
  have d7 : ((w.alloc (.cells A 37)).alloc (.cells ansZ 34)).cell? ⟨k.K, 7, none⟩ = some (.pointer (some ⟨k.Pr, 0, none⟩)) := by rw [hk.kr.cell (by decide), hk.c7]
  have HPA := Lib.hid (ProcLaw.parent_is (k := p) hk.pr q1 q16 hl)
  have HR : Hid (Row ((w.alloc (.cells A 37)).alloc (.cells #[.int .i64 0, .int .i64 0, .int .i64 0, .slice none 0 0, .slice none 0 0, .int .i64 0, .int .i64 0, .int .i64 0, .int .i64 0, .int .i64 0, .int .i64 0] 34)) (w.heap.size + 1) 34 ansZ) := Lib.hid hr2
  have HB := Lib.hid hal
  have HKT := Lib.hid hk
  have HOK := Lib.hid ok
  have H0 := Lib.hid h0
  have HLT := Lib.hid hr2.lt
  have i17 : (p : Int) < 17 := by omega
  clear hal hr1 hr2 hA ok h0 ha hb1 hk h q1 q16 hl
  have hz : ansZ = #[.int .i64 0, .int .i64 0, .int .i64 0, .slice none 0 0, .slice none 0 0, .int .i64 0, .int .i64 0, .int .i64 0, .int .i64 0, .int .i64 0, .int .i64 0] := rfl
  rw [hz] at d0 d7 HB HPA HLT HKT
  have hbd := fun w => bd_pid w p (s.t p).par
  go_enter Tryz.func52, Tryz.ntmps52
  go_upto_region 1 with fail
  generalize (w.alloc (.cells A 37)).alloc (.cells #[.int .i64 0, .int .i64 0, .int .i64 0, .slice none 0 0, .slice none 0 0, .int .i64 0, .int .i64 0, .int .i64 0, .int .i64 0, .int .i64 0, .int .i64 0] 34) = w1 at *
  obtain ⟨pp, hpp⟩ : ∃ pp : Int, pp = (s.t p).par := ⟨_, rfl⟩
  rw [← hpp] at HPA hbd
  have HPP := Lib.hid hpp
  clear hpp
  have HU0 : Hid (Upd (fun j => j < w0.heap.size) w1 w1) := Lib.hid (Upd.refl _ _)
  have HO0 : Hid (KOut w0.heap.size k s.tag (fun s' e a b => e = 0 ∧ a = p ∧ b = (s.t p).par ∧ s' = s) w1 (ansV 0 p pp (.slice none 0 0)) w1) := Lib.hid ⟨s, 0, p, pp, HKT.out, fun j e => .inl e, rfl, ⟨rfl, rfl, HPP.out, rfl⟩, Upd.refl _ _⟩
  have hX := (ansN3 0 p pp).1
  have hone := (ansN3 0 p pp).2
  generalize ansV 0 p pp (.slice none 0 0) = X at *
  have hst := ans_st HR.out hX hone
  have HLD := Lib.hid (ans_ldV HR.out hX)
  have HP := Lib.hid (HOK.out.put (C := X) H0.out HB.out HU0.out HO0.out (Nat.le_succ _) HLT.out)
  have HX := Lib.hid (And.intro hX hone)
  clear hX hone HO0 HU0 HKT
  generalize hw3 : w1.setRow (w.heap.size + 1) X = w3 at *
  go_wp2_with (go_at_call 137; refine HPA.out.mono ?_; rintro e2 w2 ⟨rfl, rfl⟩)
  exact bodyPost_ret (v := .agg X) (by rw [results_cell1 rfl]; simp [asAddr, Result.andThen, HLD.out]) rfl ⟨X, rfl, HX.out.1, HX.out.2, HP.out.1, HP.out.2⟩
end
end Go.Proofs.YtnmlapiekfkbaaaGreatDoor
namespace Go.Proofs.YtnmlapiekfkbaaaGreatDoor
open Go.RowKit
set_option linter.unusedVariables false
set_option linter.unusedSimpArgs false
section
variable {w : World} {k : KC} {s : KSt} {p : Nat} {A : Array Value}
attribute [local go_sem ↓] ld_ans st_ans ld_call
set_option maxRecDepth 100000 in
set_option maxHeartbeats 1000000 in
theorem asksl_is (hk : KT w k s) (p1 : 1 ≤ p) (p16 : p ≤ 16) (hlv : (s.t p).st = 1) (hsl : s.c (8 + p * 38 + 37) = .bool true) (hA : A.size = 7) :
    Calls Tryz.prog 7 #[.pointer (some ⟨k.K, 0, none⟩), .int .i64 p, .agg A] w fun e w' => e = .returned (.agg (ansV 8 0 0 (.slice none 0 0))) ∧ Below w.heap.size w w' := by
  have ha : ∀ (w : World) (o1 o2 o3 o4 : Obj), Below w.heap.size w ((((w.alloc o1).alloc o2).alloc o3).alloc o4) ∧ ((((w.alloc o1).alloc o2).alloc o3).alloc o4).heap[w.heap.size]? = some o1 ∧ ((((w.alloc o1).alloc o2).alloc o3).alloc o4).heap[w.heap.size + 1]? = some o2 ∧ ((((w.alloc o1).alloc o2).alloc o3).alloc o4).heap[w.heap.size + 1 + 1 + 1]? = some o4 := fun w o1 o2 o3 o4 => by
    have s1 := size_alloc1 w o1
    have s2 := size_alloc1 (w.alloc o1) o2
    have s3 := size_alloc1 ((w.alloc o1).alloc o2) o3
    refine ⟨(((Below.refl _ _).alloc (Nat.le_refl _) _).alloc (by omega) _).alloc (by omega) _ |>.alloc (by omega) _, ?_, ?_, ?_⟩
    · rw [heap_alloc_old _ _ (by omega), heap_alloc_old _ _ (by omega), heap_alloc_old _ _ (by omega)]; exact heap_alloc_new _ _
    · rw [heap_alloc_old _ _ (by omega), heap_alloc_old _ _ (by omega), ← s1]; exact heap_alloc_new _ _
    · rw [show w.heap.size + 1 + 1 + 1 = (((w.alloc o1).alloc o2).alloc o3).heap.size by omega]; exact heap_alloc_new _ _
  obtain ⟨a0, a1, a2, a4⟩ := ha w (.cells #[.pointer (some ⟨k.K, 0, none⟩)] 23) (.cells #[.int .i64 p] 3) (.cells A 37) (.cells #[.int .i64 0, .int .i64 0, .int .i64 0, .slice none 0 0, .slice none 0 0, .int .i64 0, .int .i64 0, .int .i64 0, .int .i64 0, .int .i64 0, .int .i64 0] 34)
  have HA0 := Lib.hid a0
  have hq1 := hk.keep a0
  have HQ1 := Lib.hid hq1
  have q83 : (((((w.alloc (.cells #[.pointer (some ⟨k.K, 0, none⟩)] 23)).alloc (.cells #[.int .i64 p] 3)).alloc (.cells A 37)).alloc (.cells #[.int .i64 0, .int .i64 0, .int .i64 0, .slice none 0 0, .slice none 0 0, .int .i64 0, .int .i64 0, .int .i64 0, .int .i64 0, .int .i64 0, .int .i64 0] 34))).cell? ⟨k.K, 8 + p * 38 + 37, none⟩ = some (.bool true) := by rw [hq1.kr.cell (by omega), hsl]
  have HR4 := Lib.hid a4
  have p0 := cell_of_row _ w.heap.size 0 _ _ (0, 0) a1
  have pp := cell_of_row _ (w.heap.size + 1) 0 _ _ (0, 0) a2
  rw [show (#[Value.pointer (some ⟨k.K, 0, none⟩)] : Array Value)[0]? = some (.pointer (some ⟨k.K, 0, none⟩)) from rfl] at p0
  rw [show (#[Value.int .i64 (p : Int)] : Array Value)[0]? = some (.int .i64 p) from rfl] at pp
  have HAW := Lib.hid (And.intro p1 (And.intro p16 hlv))
  have i17 : (p : Int) < 17 := by omega
  clear ha a0 a1 a2 a4 hk hq1 hA p1 p16 hlv hsl
  go_enter Tryz.func7, Tryz.ntmps7
  go_upto_region 1 with fail
  generalize (((((w.alloc (.cells #[.pointer (some ⟨k.K, 0, none⟩)] 23)).alloc (.cells #[.int .i64 p] 3)).alloc (.cells A 37)).alloc (.cells #[.int .i64 0, .int .i64 0, .int .i64 0, .slice none 0 0, .slice none 0 0, .int .i64 0, .int .i64 0, .int .i64 0, .int .i64 0, .int .i64 0, .int .i64 0] 34))) = w1 at *
  have HLV := Lib.hid (livingP_is HQ1.out HAW.out.1 HAW.out.2.1 HAW.out.2.2)
  go_upto_region 4 with (go_at_call 14; refine HLV.out.mono ?_; rintro e2 w2 ⟨rfl, rfl⟩)
  go_region
  have hb13 : Below w1.heap.size w1 w1.drew := (Below.refl _ _).drew
  have hr4 : Row w1.drew (w.heap.size + 1 + 1 + 1) 34 ansZ := Row.keep (c := ansZ) HR4.out hb13
  have HR := Lib.hid hr4
  have HB := Lib.hid (HA0.out.trans (hb13.mono HA0.out.size))
  clear hb13 hr4 p0 pp q83 HLV HR4 HQ1 HA0
  generalize w1.drew = w3 at *
  have HFL := Lib.hid (fail_is w3 8)
  go_wp2_with (go_at_call 15; refine HFL.out.mono ?_; rintro e4 w4 ⟨rfl, hb4⟩; have HRX := Lib.hid (HR.out.keep hb4); have HBX := Lib.hid (HB.out.trans (hb4.mono HB.out.size)); have hst := ans_st HRX.out (ansN 8).1 (ansN 8).2; have HLD := Lib.hid (ans_ldV HRX.out (ansN 8).1); clear hb4)
  exact bodyPost_ret (v := .agg (ansV 8 0 0 (.slice none 0 0))) (by rw [results_cell1 rfl]; simp [asAddr, Result.andThen, HLD.out]) rfl ⟨rfl, HBX.out.trans ((Upd.setRow (S := fun j => j = w.heap.size + 1 + 1 + 1) w4 _ rfl).toBelow HBX.out.size (fun j hj e => by omega))⟩
end
end Go.Proofs.YtnmlapiekfkbaaaGreatDoor
