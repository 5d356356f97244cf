/- The walks of load.may, load.Sum, load.four, load.word, bytes.Clone, bytes.Equal. -/
import Derived.Test.YtgdihccmkleimaaBootPlain
import Derived.Test.YtgdihccmkleimaaCommon
import Derived.Test.YtgdihccmkleimaaTab
import Derived.WalkSpells
import Derived.BigQuiet
import Derived.Deep.QuietTactic
namespace Go.Proofs.Ytgdihccmkleimaa.BootLaw
open Go.RowKit
set_option linter.unusedVariables false
set_option linter.unusedSimpArgs false
abbrev u8V (x : Int) : Value := .int .u8 x
/-- bytes in a slice -/
abbrev BS (w : World) (v : Value) (l : List Int) : Prop := At (Value.int .u8) 0 w v l
set_option maxRecDepth 100000 in
theorem may_is (r : Int) (w : World) : Calls Try.prog 77 #[.int .i64 r] w fun e w' => e = .returned (.bool (decide (1 ≤ r) && decide (r ≤ 5))) ∧ w' = w := by
  by_cases h1 : 1 ≤ r
  · by_cases h7 : r ≤ 7
    · have : r = 1 ∨ r = 2 ∨ r = 3 ∨ r = 4 ∨ r = 5 ∨ r = 6 ∨ r = 7 := by omega
      rcases this with rfl | rfl | rfl | rfl | rfl | rfl | rfl <;> (go_enter Try.func77, Try.ntmps77; go_wp2; go_ret; exact ⟨rfl, rfl⟩)
    · have e : (decide (1 ≤ r) && decide (r ≤ 5)) = false := by simp; omega
      have a1 : decide (1 ≤ r) = true := decide_eq_true h1
      have a2 : decide (r ≤ 7) = false := decide_eq_false h7
      rw [e]
      go_enter Try.func77, Try.ntmps77
      go_wp2
      go_ret
      exact ⟨rfl, rfl⟩
  · have e : (decide (1 ≤ r) && decide (r ≤ 5)) = false := by simp; omega
    have a1 : decide (1 ≤ r) = false := decide_eq_false h1
    rw [e]
    go_enter Try.func77, Try.ntmps77
    go_wp2
    go_ret
    exact ⟨rfl, rfl⟩
set_option maxRecDepth 100000 in
theorem four_is (x : Nat) (hx : x < 4294967296) (w : World) : Calls Try.prog 74 #[.int .u32 x] w fun e w' => e = .returned (.slice (some ⟨w.heap.size, 0, none⟩) 4 4) ∧ w' = w.alloc (.cells ((fourR x).map u8V).toArray 5) := by
  have h0 : 0 ≤ (x : Int) := by omega
  have h1 : (x : Int) < 4294967296 := by omega
  go_enter Try.func74, Try.ntmps74
  go_wp2
  go_ret
  exact ⟨rfl, rfl⟩
set_option maxRecDepth 100000 in
theorem sum_is {w : World} {v : Value} {l : List Int} (h : BS w v l) (hb : Byt l) : Calls Try.prog 67 #[v] w fun e w' => e = .returned (.int .u32 (sumR l)) ∧ w' = w := by
  obtain ⟨a, cap, rfl, hl, hcap, hc⟩ := h
  have HC := Lib.hid hc
  have HB := Lib.hid hb
  clear hc hb
  go_enter Try.func67, Try.ntmps67
  go_wp2_with fail
  go_loopw [3, 8] (fun sv iv wr => ∃ (k : Nat) (s : Nat), k ≤ l.length ∧ iv = .int .i64 k ∧ sv = .int .u32 s ∧ Hid (sumGo s (l.drop k) = sumR l ∧ s < 4294967296) ∧ wr = w) (fun _ iv _ => l.length - (intOf iv).toNat)
  case atStart => exact ⟨0, 1, by omega, rfl, rfl, ⟨rfl, by decide⟩, rfl⟩
  case round =>
    obtain ⟨k, s, hk, rfl, rfl, HS, rfl⟩ := hrel
    by_cases hkl : k < l.length
    · rcases HC.out with h | ⟨b, off, rfl, hlt, hcell⟩
      · rw [h] at hkl; simp at hkl
      · have hx := hcell k hkl
        have hxr := HB.out (l.getD k 0) (by rw [List.getD_eq_getElem?_getD, List.getElem?_eq_getElem hkl]; exact List.getElem_mem hkl)
        have hdr : l.drop k = l.getD k 0 :: l.drop (k + 1) := by rw [List.drop_eq_getElem_cons hkl, List.getD_eq_getElem?_getD, List.getElem?_eq_getElem hkl]; rfl
        have hs := HS.out.1
        rw [hdr] at hs
        generalize l.getD k 0 = c at *
        have HN := Lib.hid (And.intro hs HS.out.2)
        have hcl : (k : Int) < (l.length : Int) := by omega
        have hc0 := hxr.1
        have hc1 := hxr.2
        clear hs hdr HS hcell hxr
        have hk63 : (k : Int) < 9223372036854775807 := by unfold maxLen at hcap; omega
        go_wp2_with fail
        go_roundw
        case rel =>
          refine ⟨k + 1, (s * 31 + c.toNat) % 4294967296, by omega, by go_num, ?_, ⟨?_, Nat.mod_lt _ (by decide)⟩, trivial⟩
          · congr 1; omega
          · have := HN.out.1
            exact this
        case measure => simp [intOf]; omega
    · obtain rfl : k = l.length := by omega
      have hs := HS.out.1
      rw [List.drop_length] at hs
      have hs : s = sumR l := hs
      subst hs
      go_wp2_with fail
      go_ret
      exact ⟨rfl, rfl⟩
/-- what Clone leaves: bytes in a block of their own -/
def CloneB (l : List Int) (w : World) (e : Ending) (w' : World) : Prop := ∃ v', e = .returned v' ∧ w'.ownsRow w.heap.size 5 1 v' l.length (l.map u8V) ∧ Below w.heap.size w w'
theorem info5 : (Try.prog.info? 5).map (fun i => (i.zero, i.size, i.bytes)) = some (some (.int .u8 0), 1, 1) := by kernel_rfl
theorem u8V_one (l : List Int) : ∀ u ∈ l.map u8V, u.oneCell' = true := by
  intro u hu
  obtain ⟨x, _, rfl⟩ := List.mem_map.1 hu
  rfl
theorem cells_u8 {w : World} {b off : Nat} {l : List Int} (h : ∀ i, i < l.length → w.cell? ⟨b, off + i, none⟩ = some (u8V (l.getD i 0))) : ∀ j u, (l.map u8V)[j]? = some u → w.cell? ((⟨b, off, none⟩ : Addr).add j) = some u := by
  intro j u hj
  rw [Addr.add_lit]
  rw [List.getElem?_map] at hj
  have hlt : j < l.length := by
    rcases Nat.lt_or_ge j l.length with h | h
    · exact h
    · rw [List.getElem?_eq_none h] at hj; cases hj
  rw [h j hlt]
  simp [hlt] at hj
  simp [List.getD, hlt, hj]
theorem BS.cells {w : World} {a : Option Addr} {n cap : Nat} {l : List Int} (h : BS w (.slice a n cap) l) : ∀ j u, (l.map u8V)[j]? = some u → ∃ ad, a = some ad ∧ w.cell? (ad.add j) = some u := by
  obtain ⟨a', cap', hv, hl, hm, hc⟩ := h
  simp only [Value.slice.injEq] at hv
  obtain ⟨rfl, _, _⟩ := hv
  intro j u hj
  rcases hc with h | ⟨b, off, hab, hlt, hc⟩
  · subst h; simp at hj
  · exact ⟨_, hab, cells_u8 hc j u hj⟩
set_option maxRecDepth 100000 in
set_option maxHeartbeats 400000 in
theorem clone_is {w : World} {v : Value} {l : List Int} (h8 : l.length ≤ 1024) (hm : BS w v l) : Calls Try.prog 76 #[v] w (CloneB l w) := by
  obtain ⟨a, cap, rfl, hl, hcap, hm⟩ := hm
  have q22 : ∀ (w : World) (a : Option Addr) (n c n' c' : Nat), (binOp .eql 24 (.slice a n c) (.slice none n' c')).run Try.prog w = .ok (.bool a.isNone) w := fun w a n c n' c' => Lib.run_eql_slice_nil w _ _ a n c n' c' Try.underlying24
  cases a with
  | none =>
    have h0 : l = [] := by
      rcases hm with h | ⟨b, off, h, _⟩
      · exact h
      · cases h
    subst h0
    clear hm
    go_enter Try.func76, Try.ntmps76
    go_wp2
    go_ret
    exact ⟨_, rfl, World.ownsRow_nil _ _ _ _, Below.refl _ _⟩
  | some ad =>
    have hcl : ∀ j u, (l.map u8V)[j]? = some u → w.cell? (ad.add j) = some u := by
      rcases hm with h | ⟨b, off, hab, hlt, hc⟩
      · intro j u hj
        subst h
        simp at hj
      · simp only [Option.some.injEq] at hab
        subst hab
        exact fun j u hj => cells_u8 hc j u hj
    have hlen : (l.map u8V).length = l.length * 1 := by simp
    have hone := u8V_one l
    obtain ⟨n, hn⟩ : ∃ n, n = l.length := ⟨_, rfl⟩
    unfold CloneB
    rw [← hn] at h8 hl hlen ⊢
    generalize l.map u8V = cs at *
    have HC := Lib.hid hcl
    have HO := Lib.hid hone
    have H8 := Lib.hid h8
    clear hm hn hcl hone h8
    obtain ⟨i0, hi, hz0, hz1, hz2⟩ := info_parts info5
    go_enter Try.func76, Try.ntmps76
    go_wp2_with (at_builtin; go_loud (refine wpList_append_fresh _ rfl (.tmp 5) (.tmp 6) 24 rfl w.heap.size 5 i0 (.int .u8 0) 1 1 Try.underlying24 hi hz0 hz1 hz2 rfl (by decide) _ _ _ rfl (World.ownsRow_made w #[] 0 (Nat.le_refl _) (Nat.zero_le _) rfl) ad n _ cs rfl hlen (fun j u h => by have := HC.out j u h; rw [World.cell?_alloc_lt]; exact this; exact World.block_lt_of_cell? w _ this) HO.out (by have := H8.out; unfold maxLen; omega) (by have := H8.out; omega) (by simp) ?_))
    intro v' w1 hown hgrow hfresh
    have hb1 : Below w.heap.size w w1 := ((Below.refl _ _).alloc (Nat.le_refl _) _).grown hgrow (by simp) (fun g hg => by simp [Value.ownBlock] at hg; omega)
    clear hgrow hfresh
    rcases hown.2 with ⟨rfl, hn⟩ | ⟨g, cap', cur, rfl, hb, hg, hnc, hcm, hcs, htake⟩
    · go_wp2
      go_ret
      exact ⟨_, rfl, by simpa using hown, hb1⟩
    · clear hb hg hnc hcm hcs htake
      go_wp2
      go_ret
      exact ⟨_, rfl, by simpa using hown, hb1⟩
/-- an owned slice of bytes, read -/
theorem bs_of {w : World} {B n : Nat} {v : Value} {l : List Int} (h : w.ownsRow B 5 1 v n (l.map u8V)) (hn : n = l.length) (hm : l.length ≤ 1024) : BS w v l := by
  subst hn
  rcases h.2 with ⟨rfl, hn⟩ | ⟨g, cap', cur, rfl, hb, hg, hnc, hcm, hcs, htake⟩
  · obtain rfl := List.eq_nil_of_length_eq_zero hn
    exact ⟨none, 0, rfl, Nat.le_refl _, Nat.zero_le _, .inl rfl⟩
  · refine ⟨_, cap', rfl, ?_, ?_, .inr ⟨g, 0, rfl, (Array.getElem?_eq_some_iff.1 hg).1, fun i hi => ?_⟩⟩
    · exact hnc
    · exact hcm
    · rw [Nat.zero_add]
      refine (h.cellAt i (by simpa using hi)).trans ?_
      simp [List.getD, hi]
end Go.Proofs.Ytgdihccmkleimaa.BootLaw
