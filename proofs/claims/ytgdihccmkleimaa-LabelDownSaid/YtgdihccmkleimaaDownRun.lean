/- The walk of label.Run. -/
import Derived.Test.YtgdihccmkleimaaDownPlain
import Derived.Test.YtgdihccmkleimaaLabelWalk
import Derived.Test.YtgdihccmkleimaaBase
import Derived.Deep.RegionHeld3
import Derived.WalkSmall
namespace Go.Proofs.Ytgdihccmkleimaa.LabelLaw
open Go.RowKit
set_option linter.unusedVariables false

def LabS (w : World) (v : Value) (l : List Lab) : Prop :=
  ∃ (a : Option Addr) (cap : Nat), v = .slice a l.length cap ∧ l.length ≤ cap ∧ (l.length = 0 ∨ ∃ b off, a = some ⟨b, off, none⟩ ∧ b < w.heap.size ∧
    ∀ i, i < l.length → w.cell? ⟨b, off + i * 2, none⟩ = some (.int .i64 (l.getD i lab0).l) ∧ w.cell? ⟨b, off + i * 2 + 1, none⟩ = some (.int .i64 (l.getD i lab0).k))
theorem LabS.below {w w' : World} {v : Value} {l : List Lab} (h : LabS w v l) (hb : Below w.heap.size w w') : LabS w' v l := by
  obtain ⟨a, cap, hv, hl, h⟩ := h
  refine ⟨a, cap, hv, hl, ?_⟩
  rcases h with h | ⟨b, off, ha, hlt, hc⟩
  · exact .inl h
  · exact .inr ⟨b, off, ha, Nat.lt_of_lt_of_le hlt hb.size, fun i hi => ⟨(hb.cell (p := ⟨b, _, none⟩) hlt).trans (hc i hi).1, (hb.cell (p := ⟨b, _, none⟩) hlt).trans (hc i hi).2⟩⟩
abbrev act0 : Act := ⟨0, 0, false⟩
def ActS (w : World) (v : Value) (l : List Act) : Prop :=
  ∃ (a : Option Addr) (cap : Nat), v = .slice a l.length cap ∧ l.length ≤ cap ∧ (l.length = 0 ∨ ∃ b off, a = some ⟨b, off, none⟩ ∧ b < w.heap.size ∧
    ∀ i, i < l.length → w.cell? ⟨b, off + i * 3, none⟩ = some (.int .i64 (l.getD i act0).who) ∧ w.cell? ⟨b, off + i * 3 + 1, none⟩ = some (.int .i64 (l.getD i act0).what) ∧ w.cell? ⟨b, off + i * 3 + 2, none⟩ = some (.bool (l.getD i act0).write))
theorem ActS.below {w w' : World} {v : Value} {l : List Act} (h : ActS w v l) (hb : Below w.heap.size w w') : ActS w' v l := by
  obtain ⟨a, cap, hv, hl, h⟩ := h
  refine ⟨a, cap, hv, hl, ?_⟩
  rcases h with h | ⟨b, off, ha, hlt, hc⟩
  · exact .inl h
  · exact .inr ⟨b, off, ha, Nat.lt_of_lt_of_le hlt hb.size, fun i hi => ⟨(hb.cell (p := ⟨b, _, none⟩) hlt).trans (hc i hi).1, (hb.cell (p := ⟨b, _, none⟩) hlt).trans (hc i hi).2.1, (hb.cell (p := ⟨b, _, none⟩) hlt).trans (hc i hi).2.2⟩⟩

def RunPost (who what : List Lab) (acts : List Act) (w : World) (e : Ending) (w' : World) : Prop :=
  ∃ v en done, e = .returned (.tuple #[v, .int .i64 en]) ∧ Below w.heap.size w w' ∧ At Value.bool false w' v done ∧
    (en = 0 → who.length ≤ 6 ∧ what.length ≤ 6 ∧ acts.length ≤ 40 ∧ allOk who ∧ allOk what ∧ done = acts.map (doneB who what) ∧ ∀ i, i < acts.length → inR who what (acts.getD i act0))
theorem runPost_bad {who what : List Lab} {acts : List Act} {w w' : World} {en : Int} (h : en ≠ 0) (hb : Below w.heap.size w w') : RunPost who what acts w (.returned (.tuple #[.slice none 0 0, .int .i64 en])) w' :=
  ⟨_, en, [], rfl, hb, ⟨none, 0, rfl, Nat.le_refl _, Nat.zero_le _, .inl rfl⟩, fun e => absurd e h⟩

theorem ownsRow_below' {w w' : World} {base : Nat} {e : TypeId} {size : Nat} {v : Value} {n : Nat} {xs : List Value} (h : w.ownsRow base e size v n xs) (hb : Below w.heap.size w w') : w'.ownsRow base e size v n xs :=
  h.kept (row := none) ⟨hb.os, hb.tape, hb.output, hb.size, fun k hk _ => hb.block k hk⟩ (by cases hv : v.ownBlock <;> simp)
theorem info4 : (Try.prog.info? 4).map (fun i => (i.zero, i.size, i.bytes)) = some (some (.bool false), 1, 1) := by kernel_rfl
/-- labels that were looked at are right -/
def okTo (l : List Lab) (k : Nat) : Prop := ∀ i, i < k → okL (l.getD i lab0) = true

set_option maxRecDepth 100000 in
set_option maxHeartbeats 4000000 in
theorem run_is {w : World} {v0 v1 v2 : Value} {who what : List Lab} {acts : List Act} (h0 : LabS w v0 who) (h1 : LabS w v1 what) (h2 : ActS w v2 acts) :
    Calls Try.prog 54 #[v0, v1, v2] w (RunPost who what acts w) := by
  obtain ⟨a0, cap0, rfl, hl0, h0⟩ := h0
  obtain ⟨a1, cap1, rfl, hl1, h1⟩ := h1
  obtain ⟨a2, cap2, rfl, hl2, h2⟩ := h2
  obtain ⟨n0, hn0⟩ : ∃ n, n = who.length := ⟨_, rfl⟩
  obtain ⟨n1, hn1⟩ : ∃ n, n = what.length := ⟨_, rfl⟩
  obtain ⟨n2, hn2⟩ : ∃ n, n = acts.length := ⟨_, rfl⟩
  rw [← hn0] at hl0 h0 ⊢
  rw [← hn1] at hl1 h1 ⊢
  rw [← hn2] at hl2 h2 ⊢
  have N0 := Lib.hid hn0
  have N1 := Lib.hid hn1
  have N2 := Lib.hid hn2
  have H0 := Lib.hid h0
  have H1 := Lib.hid h1
  have H2 := Lib.hid h2
  clear hn0 hn1 hn2 h0 h1 h2
  by_cases hlen : n0 ≤ 6 ∧ n1 ≤ 6 ∧ n2 ≤ 40
  · obtain ⟨e0, e1, e2⟩ := hlen
    go_enter Try.func54, Try.ntmps54
    go_wp2
    refine wp_loop_rounds 3 ?_
    rw [rounds_succ]
    go_wp2_with fail
    go_loopw [41] (fun iv wr => ∃ k : Nat, k ≤ n0 ∧ iv = .int .i64 k ∧ Below w.heap.size w wr ∧ Hid (okTo who k) ∧ wr.cell? ⟨w.heap.size, 1, none⟩ = some (.slice a1 n1 cap1)) (fun iv _ => n0 - (intOf iv).toNat)
    case atStart => exact ⟨0, Nat.zero_le _, rfl, (Below.refl _ _).alloc (Nat.le_refl _) _, fun i hi => absurd hi (Nat.not_lt_zero _), by simp⟩
    case round =>
      obtain ⟨k, hk, rfl, hbel, HK, q1⟩ := hrel
      by_cases hlt : k < n0
      · rcases H0.out with h0 | ⟨b, off, rfl, hb0, hc⟩
        · omega
        · obtain ⟨r, hr⟩ : ∃ r, r = who.getD k lab0 := ⟨_, rfl⟩
          have g1 := (hbel.cell (p := ⟨b, off + k * 2, none⟩) hb0).trans (hc k hlt).1
          have g2 := (hbel.cell (p := ⟨b, off + k * 2 + 1, none⟩) hb0).trans (hc k hlt).2
          rw [← hr] at g1 g2
          have HR := Lib.hid hr
          clear hr hc
          have hA : Below wr.heap.size wr (wr.alloc (.cells #[.int .i64 r.l, .int .i64 r.k] 43)) := (Below.refl _ _).alloc (Nat.le_refl _) _
          by_cases hok : okL r = true
          · have HOK := Lib.hid hok
            clear hok
            go_wp2_with fail
            refine (check_ok r _ HOK.out).mono ?_
            rintro e w3 ⟨rfl, hb3⟩
            have hb4 := hA.trans (hb3.mono hA.size)
            have q2 := (hb4.cell (p := ⟨w.heap.size, 1, none⟩) (World.block_lt_of_cell? wr _ q1)).trans q1
            have hb5 := hbel.trans (hb4.mono hbel.size)
            clear hb3 hA
            go_wp2_with fail
            go_roundw
            case rel =>
              refine ⟨k + 1, by omega, by go_num, hb5, fun i hi => ?_, q2⟩
              rcases Nat.lt_succ_iff_lt_or_eq.1 hi with h | rfl
              · exact HK.out i h
              · rw [← HR.out]; exact HOK.out
            case measure => simp [intOf]; omega
          · have HOK := Lib.hid hok
            clear hok
            go_wp2_with fail
            refine (check_bad r _ HOK.out).mono ?_
            rintro e w3 ⟨rfl, hb3⟩
            have hb4 := hA.trans (hb3.mono hA.size)
            have hb5 := hbel.trans (hb4.mono hbel.size)
            clear hb3 hb4 hA
            go_wp2
            go_ret2
            exact runPost_bad (by decide) hb5
      · obtain rfl : k = n0 := by omega
        obtain ⟨wo, rfl⟩ : ∃ wo : World, wo = wr := ⟨_, rfl⟩
        clear hlt
        go_wp2_with fail
        rw [rounds_succ]
        go_wp2_with fail
        go_loopw [41] (fun iv wr => ∃ j : Nat, j ≤ n1 ∧ iv = .int .i64 j ∧ Below w.heap.size w wr ∧ Hid (okTo what j)) (fun iv _ => n1 - (intOf iv).toNat)
        case atStart => exact ⟨0, Nat.zero_le _, rfl, hbel, fun i hi => absurd hi (Nat.not_lt_zero _)⟩
        case round =>
          clear hbel q1
          have HK0 := HK
          clear HK
          obtain ⟨k2, hk2, rfl, hbel, HK⟩ := hrel
          by_cases hlt : k2 < n1
          · rcases H1.out with h0 | ⟨b, off, rfl, hb0, hc⟩
            · omega
            · obtain ⟨r, hr⟩ : ∃ r, r = what.getD k2 lab0 := ⟨_, rfl⟩
              have g1 := (hbel.cell (p := ⟨b, off + k2 * 2, none⟩) hb0).trans (hc k2 hlt).1
              have g2 := (hbel.cell (p := ⟨b, off + k2 * 2 + 1, none⟩) hb0).trans (hc k2 hlt).2
              rw [← hr] at g1 g2
              have HR := Lib.hid hr
              clear hr hc
              have hA : Below wr.heap.size wr (wr.alloc (.cells #[.int .i64 r.l, .int .i64 r.k] 43)) := (Below.refl _ _).alloc (Nat.le_refl _) _
              by_cases hok : okL r = true
              · have HOK := Lib.hid hok
                clear hok
                go_wp2_with fail
                refine (check_ok r _ HOK.out).mono ?_
                rintro e w3 ⟨rfl, hb3⟩
                have hb4 := hA.trans (hb3.mono hA.size)
                have hb5 := hbel.trans (hb4.mono hbel.size)
                clear hb3 hA
                go_wp2_with fail
                go_roundw
                case rel =>
                  refine ⟨k2 + 1, by omega, by go_num, hb5, fun i hi => ?_⟩
                  rcases Nat.lt_succ_iff_lt_or_eq.1 hi with h | rfl
                  · exact HK.out i h
                  · rw [← HR.out]; exact HOK.out
                case measure => simp [intOf]; omega
              · have HOK := Lib.hid hok
                clear hok
                go_wp2_with fail
                refine (check_bad r _ HOK.out).mono ?_
                rintro e w3 ⟨rfl, hb3⟩
                have hb4 := hA.trans (hb3.mono hA.size)
                have hb5 := hbel.trans (hb4.mono hbel.size)
                clear hb3 hb4 hA
                go_wp2
                go_ret2
                exact runPost_bad (by decide) hb5
          · obtain rfl : k2 = n1 := by omega
            go_wp2_with fail
            rw [rounds_succ]
            go_wp2_with fail
            obtain ⟨i0, hi, hz0, hz1, hz2⟩ := info_parts info4
            have HK1 := HK
            clear HK hlt
            go_loopw [13, 54] (fun ov iv wr => ∃ k : Nat, k ≤ n2 ∧ iv = .int .i64 k ∧ Below w.heap.size w wr ∧ wr.ownsRow w.heap.size 4 1 ov k (((acts.take k).map (doneB who what)).map Value.bool) ∧ Hid (∀ i, i < k → inR who what (acts.getD i act0))) (fun _ iv _ => n2 - (intOf iv).toNat)
            case atStart => exact ⟨0, Nat.zero_le _, rfl, hbel, World.ownsRow_nil _ _ _ _, fun i hi => absurd hi (Nat.not_lt_zero _)⟩
            case round =>
              clear hbel
              obtain ⟨k3, hk3, rfl, hbel, hown, HIN⟩ := hrel
              by_cases hlt : k3 < n2
              · rcases H2.out with h0 | ⟨b, off, rfl, hb0, hc⟩
                · omega
                · obtain ⟨r, hr⟩ : ∃ r, r = acts.getD k3 act0 := ⟨_, rfl⟩
                  have g1 := (hbel.cell (p := ⟨b, off + k3 * 3, none⟩) hb0).trans (hc k3 hlt).1
                  have g2 := (hbel.cell (p := ⟨b, off + k3 * 3 + 1, none⟩) hb0).trans (hc k3 hlt).2.1
                  have g3 := (hbel.cell (p := ⟨b, off + k3 * 3 + 2, none⟩) hb0).trans (hc k3 hlt).2.2
                  rw [← hr] at g1 g2 g3
                  have HR := Lib.hid hr
                  have htake : ∀ z, z = doneB who what r → ((acts.take (k3 + 1)).map (doneB who what)).map Value.bool = ((acts.take k3).map (doneB who what)).map Value.bool ++ [.bool z] := fun z hz => by
                    have hkl : k3 < acts.length := by rw [← N2.out]; exact hlt
                    have hg : acts.getD k3 act0 = acts[k3] := by simp [List.getD, hkl]
                    rw [List.take_succ_eq_append_getElem hkl, hz, hr, hg]; simp only [List.map_append, List.map_cons, List.map_nil]
                  have TAKE := Lib.hid htake
                  clear hr hc htake
                  obtain ⟨rw_, rt, rb⟩ := r
                  simp only at g1 g2 g3
                  have hA : Below wr.heap.size wr (wr.alloc (.cells #[.int .i64 rw_, .int .i64 rt, .bool rb] 110)) := (Below.refl _ _).alloc (Nat.le_refl _) _
                  by_cases hin : 0 ≤ rw_ ∧ rw_ < k ∧ 0 ≤ rt ∧ rt < k2
                  · obtain ⟨x, rfl⟩ : ∃ x : Nat, rw_ = x := ⟨rw_.toNat, by omega⟩
                    obtain ⟨y, rfl⟩ : ∃ y : Nat, rt = y := ⟨rt.toNat, by omega⟩
                    have HIR : Hid (inR who what ⟨x, y, rb⟩) := by
                      show inR who what ⟨x, y, rb⟩
                      unfold inR
                      rw [← N0.out, ← N1.out]; exact hin
                    have hx : x < k := by omega
                    have hy : y < k2 := by omega
                    rcases H0.out with h0 | ⟨b0, off0, rfl, hb00, hc0⟩
                    · omega
                    rcases H1.out with h0 | ⟨b1, off1, rfl, hb11, hc1⟩
                    · omega
                    obtain ⟨p, hp⟩ : ∃ p, p = who.getD x lab0 := ⟨_, rfl⟩
                    obtain ⟨q, hq⟩ : ∃ q, q = what.getD y lab0 := ⟨_, rfl⟩
                    have p1 := (hbel.cell (p := ⟨b0, off0 + x * 2, none⟩) hb00).trans (hc0 x hx).1
                    have p2 := (hbel.cell (p := ⟨b0, off0 + x * 2 + 1, none⟩) hb00).trans (hc0 x hx).2
                    have q1 := (hbel.cell (p := ⟨b1, off1 + y * 2, none⟩) hb11).trans (hc1 y hy).1
                    have q2 := (hbel.cell (p := ⟨b1, off1 + y * 2 + 1, none⟩) hb11).trans (hc1 y hy).2
                    rw [← hp] at p1 p2
                    rw [← hq] at q1 q2
                    have hokp : okL p = true := by rw [hp]; exact HK0.out x hx
                    have hokq : okL q = true := by rw [hq]; exact HK1.out y hy
                    have hbox := has_new wr [.int .i64 x, .int .i64 y, .bool rb] 110
                    have hboth : ∀ w', Below (wr.alloc (.cells #[.int .i64 x, .int .i64 y, .bool rb] 110)).heap.size (wr.alloc (.cells #[.int .i64 x, .int .i64 y, .bool rb] 110)) w' → (Below (wr.alloc (.cells #[.int .i64 x, .int .i64 y, .bool rb] 110)).heap.size (wr.alloc (.cells #[.int .i64 x, .int .i64 y, .bool rb] 110)) w' ∧ w'.cell? ⟨wr.heap.size, 0, none⟩ = some (.int .i64 x) ∧ w'.cell? ⟨wr.heap.size, 1, none⟩ = some (.int .i64 y) ∧ w'.cell? ⟨wr.heap.size, 2, none⟩ = some (.bool rb) ∧ w'.cell? ⟨b0, off0 + x * 2, none⟩ = some (.int .i64 p.l) ∧ w'.cell? ⟨b0, off0 + x * 2 + 1, none⟩ = some (.int .i64 p.k) ∧ w'.cell? ⟨b1, off1 + y * 2, none⟩ = some (.int .i64 q.l) ∧ w'.cell? ⟨b1, off1 + y * 2 + 1, none⟩ = some (.int .i64 q.k)) := fun w' hb => by
                      have h3 := hbox.keep hb
                      have hb' := hA.trans (hb.mono hA.size)
                      have l0 := World.block_lt_of_cell? wr _ p1
                      have l1 := World.block_lt_of_cell? wr _ q1
                      exact ⟨hb, h3.2 0 _ rfl, h3.2 1 _ rfl, h3.2 2 _ rfl, (hb'.cell (p := ⟨b0, off0 + x * 2, none⟩) l0).trans p1, (hb'.cell (p := ⟨b0, off0 + x * 2 + 1, none⟩) l0).trans p2, (hb'.cell (p := ⟨b1, off1 + y * 2, none⟩) l1).trans q1, (hb'.cell (p := ⟨b1, off1 + y * 2 + 1, none⟩) l1).trans q2⟩
                    have HBO := Lib.hid hboth
                    have HP := Lib.hid hp
                    have HQ := Lib.hid hq
                    have HOP := Lib.hid hokp
                    have HOQ := Lib.hid hokq
                    clear hp hq hokp hokq hboth hbox hc0 hc1 p1 p2 q1 q2 hin
                    cases rb
                    · have HD : Hid (flowsB q p = doneB who what ⟨x, y, false⟩) := by
                        show flowsB q p = doneB who what ⟨x, y, false⟩
                        rw [doneB, if_neg (by simp), HP.out, HQ.out]; rfl
                      go_wp2_with fail
                      go_region_held3 (fun w' => Below (wr.alloc (.cells #[.int .i64 x, .int .i64 y, .bool false] 110)).heap.size (wr.alloc (.cells #[.int .i64 x, .int .i64 y, .bool false] 110)) w' ∧ w'.cell? ⟨wr.heap.size, 0, none⟩ = some (.int .i64 x) ∧ w'.cell? ⟨wr.heap.size, 1, none⟩ = some (.int .i64 y) ∧ w'.cell? ⟨wr.heap.size, 2, none⟩ = some (.bool false) ∧ w'.cell? ⟨b0, off0 + x * 2, none⟩ = some (.int .i64 p.l) ∧ w'.cell? ⟨b0, off0 + x * 2 + 1, none⟩ = some (.int .i64 p.k) ∧ w'.cell? ⟨b1, off1 + y * 2, none⟩ = some (.int .i64 q.l) ∧ w'.cell? ⟨b1, off1 + y * 2 + 1, none⟩ = some (.int .i64 q.k)) (first | assumption | exact HBO.out _ (Below.refl _ _).drew | go_keep)
                        (first | (go_at_call 24; refine (flows_ok q p _ HOQ.out HOP.out).mono ?_; rintro e w5 ⟨rfl, hb5⟩; have hS := HBO.out _ ((‹Below (wr.alloc (.cells #[.int .i64 x, .int .i64 y, .bool false] 110)).heap.size _ _ ∧ _›).1.trans (hb5.mono (‹Below (wr.alloc (.cells #[.int .i64 x, .int .i64 y, .bool false] 110)).heap.size _ _ ∧ _›).1.size))))
                      obtain ⟨hB5, z0, z1, z2, _⟩ := HBO.out _ (‹Below (wr.alloc (.cells #[.int .i64 x, .int .i64 y, .bool false] 110)).heap.size _ w5 ∧ _›).1
                      have hown5 := ownsRow_below' hown (hA.trans (hB5.mono hA.size))
                      have hbel5 := hbel.trans ((hA.trans (hB5.mono hA.size)).mono hbel.size)
                      clear hown hbel hA
                      go_wp2_with (at_builtin; refine wpList_append_fresh _ rfl (.tmp 110) (.tmp 112) 105 rfl w.heap.size 4 i0 (.bool false) 1 1 Try.underlying105 hi hz0 hz1 hz2 rfl (by decide) _ _ _ rfl (hown5.alloc _) ⟨_, 0, none⟩ 1 1 [.bool (flowsB q p)] rfl rfl (cells1_new _ _ _) oneB (by unfold maxLen; omega) (by omega) (by have := hbel5.size; simp; omega) ?_)
                      intro v' w7 hown7 hgrow7 hfresh7
                      have hbel7 : Below w.heap.size w w7 := (hbel5.alloc hbel5.size _).grown hgrow7 (by have := hbel5.size; simp; omega) (fun g hg => (hown5.lt g hg).1)
                      have hown8 : w7.ownsRow w.heap.size 4 1 v' (k3 + 1) (((acts.take (k3 + 1)).map (doneB who what)).map Value.bool) := by
                        rw [TAKE.out (flowsB q p) HD.out]
                        simpa using hown7
                      clear hown7 hgrow7 hfresh7 hown5 hbel5
                      go_wp2
                      go_roundw
                      case rel =>
                        refine ⟨k3 + 1, by omega, by go_num, hbel7, hown8, fun i hi => ?_⟩
                        rcases Nat.lt_succ_iff_lt_or_eq.1 hi with h | rfl
                        · exact HIN.out i h
                        · rw [← HR.out]; exact HIR.out
                      case measure => simp [intOf]; omega
                    · have HD : Hid (flowsB p q = doneB who what ⟨x, y, true⟩) := by
                        show flowsB p q = doneB who what ⟨x, y, true⟩
                        rw [doneB, if_pos rfl, HP.out, HQ.out]; rfl
                      go_wp2_with fail
                      go_region_held3 (fun w' => Below (wr.alloc (.cells #[.int .i64 x, .int .i64 y, .bool true] 110)).heap.size (wr.alloc (.cells #[.int .i64 x, .int .i64 y, .bool true] 110)) w' ∧ w'.cell? ⟨wr.heap.size, 0, none⟩ = some (.int .i64 x) ∧ w'.cell? ⟨wr.heap.size, 1, none⟩ = some (.int .i64 y) ∧ w'.cell? ⟨wr.heap.size, 2, none⟩ = some (.bool true) ∧ w'.cell? ⟨b0, off0 + x * 2, none⟩ = some (.int .i64 p.l) ∧ w'.cell? ⟨b0, off0 + x * 2 + 1, none⟩ = some (.int .i64 p.k) ∧ w'.cell? ⟨b1, off1 + y * 2, none⟩ = some (.int .i64 q.l) ∧ w'.cell? ⟨b1, off1 + y * 2 + 1, none⟩ = some (.int .i64 q.k)) (first | assumption | exact HBO.out _ (Below.refl _ _).drew | go_keep)
                        (first | (go_at_call 24; refine (flows_ok q p _ HOQ.out HOP.out).mono ?_; rintro e w5 ⟨rfl, hb5⟩; have hS := HBO.out _ ((‹Below (wr.alloc (.cells #[.int .i64 x, .int .i64 y, .bool true] 110)).heap.size _ _ ∧ _›).1.trans (hb5.mono (‹Below (wr.alloc (.cells #[.int .i64 x, .int .i64 y, .bool true] 110)).heap.size _ _ ∧ _›).1.size))))
                      obtain ⟨hB5, z0, z1, z2, _⟩ := HBO.out _ (‹Below (wr.alloc (.cells #[.int .i64 x, .int .i64 y, .bool true] 110)).heap.size _ w5 ∧ _›).1
                      go_wp2_with fail
                      go_region_held3 (fun w' => Below (wr.alloc (.cells #[.int .i64 x, .int .i64 y, .bool true] 110)).heap.size (wr.alloc (.cells #[.int .i64 x, .int .i64 y, .bool true] 110)) w' ∧ w'.cell? ⟨wr.heap.size, 0, none⟩ = some (.int .i64 x) ∧ w'.cell? ⟨wr.heap.size, 1, none⟩ = some (.int .i64 y) ∧ w'.cell? ⟨wr.heap.size, 2, none⟩ = some (.bool true) ∧ w'.cell? ⟨b0, off0 + x * 2, none⟩ = some (.int .i64 p.l) ∧ w'.cell? ⟨b0, off0 + x * 2 + 1, none⟩ = some (.int .i64 p.k) ∧ w'.cell? ⟨b1, off1 + y * 2, none⟩ = some (.int .i64 q.l) ∧ w'.cell? ⟨b1, off1 + y * 2 + 1, none⟩ = some (.int .i64 q.k)) (first | assumption | exact HBO.out _ hB5.drew | go_keep)
                        (first | (go_at_call 24; refine (flows_ok p q _ HOP.out HOQ.out).mono ?_; rintro e w6 ⟨rfl, hb6⟩; have hS := HBO.out _ ((‹Below (wr.alloc (.cells #[.int .i64 x, .int .i64 y, .bool true] 110)).heap.size _ _ ∧ _›).1.trans (hb6.mono (‹Below (wr.alloc (.cells #[.int .i64 x, .int .i64 y, .bool true] 110)).heap.size _ _ ∧ _›).1.size))))
                      obtain ⟨hB6, _⟩ := HBO.out _ (‹Below (wr.alloc (.cells #[.int .i64 x, .int .i64 y, .bool true] 110)).heap.size _ w6 ∧ _›).1
                      have hown5 := ownsRow_below' hown (hA.trans (hB6.mono hA.size))
                      have hbel5 := hbel.trans ((hA.trans (hB6.mono hA.size)).mono hbel.size)
                      clear hown hbel hA
                      go_wp2_with (at_builtin; refine wpList_append_fresh _ rfl (.tmp 110) (.tmp 112) 105 rfl w.heap.size 4 i0 (.bool false) 1 1 Try.underlying105 hi hz0 hz1 hz2 rfl (by decide) _ _ _ rfl (hown5.alloc _) ⟨_, 0, none⟩ 1 1 [.bool (flowsB p q)] rfl rfl (cells1_new _ _ _) oneB (by unfold maxLen; omega) (by omega) (by have := hbel5.size; simp; omega) ?_)
                      intro v' w7 hown7 hgrow7 hfresh7
                      have hbel7 : Below w.heap.size w w7 := (hbel5.alloc hbel5.size _).grown hgrow7 (by have := hbel5.size; simp; omega) (fun g hg => (hown5.lt g hg).1)
                      have hown8 : w7.ownsRow w.heap.size 4 1 v' (k3 + 1) (((acts.take (k3 + 1)).map (doneB who what)).map Value.bool) := by
                        rw [TAKE.out (flowsB p q) HD.out]
                        simpa using hown7
                      clear hown7 hgrow7 hfresh7 hown5 hbel5
                      go_wp2
                      go_roundw
                      case rel =>
                        refine ⟨k3 + 1, by omega, by go_num, hbel7, hown8, fun i hi => ?_⟩
                        rcases Nat.lt_succ_iff_lt_or_eq.1 hi with h | rfl
                        · exact HIN.out i h
                        · rw [← HR.out]; exact HIR.out
                      case measure => simp [intOf]; omega
                  · have hcase : rw_ < 0 ∨ (0 ≤ rw_ ∧ (k : Int) ≤ rw_) ∨ ((0 ≤ rw_ ∧ rw_ < k) ∧ rt < 0) ∨ ((0 ≤ rw_ ∧ rw_ < k) ∧ 0 ≤ rt ∧ (k2 : Int) ≤ rt) := by omega
                    clear hin
                    rcases hcase with hh | hh | hh | hh
                    all_goals
                      go_wp2
                      go_ret2
                      exact runPost_bad (by decide) (hbel.trans (hA.mono hbel.size))
              · obtain rfl : k3 = n2 := by omega
                go_wp2
                go_ret2
                refine ⟨_, 0, acts.map (doneB who what), rfl, hbel, ?_, fun _ => ⟨by rw [← N0.out]; exact e0, by rw [← N1.out]; exact e1, by rw [← N2.out]; exact e2, fun i hi => HK0.out i (by rw [N0.out]; exact hi), fun i hi => HK1.out i (by rw [N1.out]; exact hi), rfl, fun i hi => HIN.out i (by rw [N2.out]; exact hi)⟩⟩
                rw [List.take_of_length_le (by rw [N2.out]; exact Nat.le_refl _)] at hown
                exact at_of_owned (by simpa [N2.out] using hown)
  · have hcase : 6 < n0 ∨ (n0 ≤ 6 ∧ 6 < n1) ∨ ((n0 ≤ 6 ∧ n1 ≤ 6) ∧ 40 < n2) := by omega
    clear hlen
    rcases hcase with hh | hh | hh
    all_goals
      go_enter Try.func54, Try.ntmps54
      go_wp2
      go_ret2
      exact runPost_bad (by decide) (Below.refl _ _)
end Go.Proofs.Ytgdihccmkleimaa.LabelLaw
