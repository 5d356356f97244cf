/- The walks of the plain tree's methods: node, Stat, Tells. -/
import Derived.Test.YtjkephmfpoekgaaDoorPathLaws
namespace Go.Proofs.YtjkephmfpoekgaaDoor.PathLaw
open Go.RowKit Go.Proofs.YtjkephmfpoekgaaDoor.CredLaw
set_option linter.unusedVariables false
set_option linter.unusedSimpArgs false
structure Nd where
  st : S
  names : List (ByteArray × Int)
  tell : ByteArray
def zeroS : S := ⟨0, 0, 0, 0, 0, 0⟩
def zeroNd : Nd := ⟨zeroS, [], ⟨#[]⟩⟩
/-- a slice of entries -/
def NamesS (w : World) (v : Value) (l : List (ByteArray × Int)) : Prop :=
  ∃ (a : Option Addr) (cap : Nat), v = .slice a l.length cap ∧ l.length ≤ cap ∧ cap ≤ maxLen ∧
    (l = [] ∨ ∃ b off, a = some ⟨b, off, none⟩ ∧ b < w.heap.size ∧ ∀ i, i < l.length → w.cell? ⟨b, off + i * 2, none⟩ = some (.string (l.getD i (⟨#[]⟩, 0)).1) ∧ w.cell? ⟨b, off + i * 2 + 1, none⟩ = some (.int .i64 (l.getD i (⟨#[]⟩, 0)).2))
theorem NamesS.keep {w w' : World} {v : Value} {l : List (ByteArray × Int)} (h : NamesS w v l) (hb : Below w.heap.size w w') : NamesS w' v l := by
  obtain ⟨a, cap, hv, hl, hm, h⟩ := h
  refine ⟨a, cap, hv, hl, hm, ?_⟩
  rcases h with h | ⟨b, off, ha, hlt, hc⟩
  · exact .inl h
  · exact .inr ⟨b, off, ha, Nat.lt_of_lt_of_le hlt hb.size, fun i hi => ⟨(hb.cell (p := ⟨b, _, none⟩) hlt).trans (hc i hi).1, (hb.cell (p := ⟨b, _, none⟩) hlt).trans (hc i hi).2⟩⟩
/-- a node's cells -/
structure NdS (w : World) (b o : Nat) (d : Nd) : Prop where
  lt : b < w.heap.size
  c0 : w.cell? ⟨b, o, none⟩ = some (.int .i64 d.st.kind)
  c1 : w.cell? ⟨b, o + 1, none⟩ = some (.int .i64 d.st.mode)
  c2 : w.cell? ⟨b, o + 2, none⟩ = some (.int .i64 d.st.user)
  c3 : w.cell? ⟨b, o + 3, none⟩ = some (.int .i64 d.st.group)
  c4 : w.cell? ⟨b, o + 4, none⟩ = some (.int .i64 d.st.size)
  c5 : w.cell? ⟨b, o + 5, none⟩ = some (.int .i64 d.st.links)
  c6 : ∃ v, w.cell? ⟨b, o + 6, none⟩ = some v ∧ NamesS w v d.names
  c7 : w.cell? ⟨b, o + 7, none⟩ = some (.string d.tell)
theorem NdS.keep {w w' : World} {b o : Nat} {d : Nd} (h : NdS w b o d) (hb : Below w.heap.size w w') : NdS w' b o d := by
  have k : ∀ {o v}, w.cell? ⟨b, o, none⟩ = some v → w'.cell? ⟨b, o, none⟩ = some v := fun hc => (hb.cell (p := ⟨b, _, none⟩) h.lt).trans hc
  obtain ⟨v, h6, h6'⟩ := h.c6
  exact ⟨Nat.lt_of_lt_of_le h.lt hb.size, k h.c0, k h.c1, k h.c2, k h.c3, k h.c4, k h.c5, ⟨v, k h6, h6'.keep hb⟩, k h.c7⟩
def TreeS (w : World) (v : Value) (T : List Nd) : Prop :=
  ∃ (a : Option Addr) (cap : Nat), v = .agg #[.slice a T.length cap] ∧ T.length ≤ cap ∧ cap ≤ maxLen ∧
    (T = [] ∨ ∃ b off, a = some ⟨b, off, none⟩ ∧ ∀ i, i < T.length → NdS w b (off + i * 8) (T.getD i zeroNd))
theorem TreeS.keep {w w' : World} {v : Value} {T : List Nd} (h : TreeS w v T) (hb : Below w.heap.size w w') : TreeS w' v T := by
  obtain ⟨a, cap, hv, hl, hm, h⟩ := h
  refine ⟨a, cap, hv, hl, hm, ?_⟩
  rcases h with h | ⟨b, off, ha, hc⟩
  · exact .inl h
  · exact .inr ⟨b, off, ha, fun i hi => (hc i hi).keep hb⟩
def nodeT (T : List Nd) (n : Int) : Option Nd := if n < 1 then none else if (T.length : Int) < n then none else if (T.getD (n - 1).toNat zeroNd).st.kind = 0 then none else some (T.getD (n - 1).toNat zeroNd)
def NodePost (T : List Nd) (n : Int) (w : World) (E : Ending) (w' : World) : Prop :=
  ∃ p : Option Addr, E = .returned (.pointer p) ∧ Below w.heap.size w w' ∧ ((p = none ∧ nodeT T n = none) ∨ ∃ b o d, p = some ⟨b, o, none⟩ ∧ nodeT T n = some d ∧ NdS w b o d)
set_option maxRecDepth 100000 in
theorem node_is {w : World} {v : Value} {T : List Nd} (n : Int) (h : TreeS w v T) : Calls Tryd.prog 17 #[v, .int .i64 n] w (NodePost T n w) := by
  obtain ⟨a, cap, rfl, hl, hcap, hc⟩ := h
  have hb1 := Lib.hid (Go.Joins.below_alloc1 w (.cells #[.slice a T.length cap] 24))
  have hmx : (cap : Int) ≤ 9223372036854775807 := by have : cap ≤ maxLen := hcap; unfold maxLen at this; omega
  by_cases h1 : n < 1
  · have HN := Lib.hid (show nodeT T n = none by rw [nodeT, if_pos h1])
    clear hc
    go_enter Tryd.func17, Tryd.ntmps17
    go_wp2
    go_ret
    exact ⟨none, rfl, hb1.out, .inl ⟨rfl, HN.out⟩⟩
  · by_cases h2 : (T.length : Int) < n
    · have HN := Lib.hid (show nodeT T n = none by rw [nodeT, if_neg h1, if_pos h2])
      clear hc
      go_enter Tryd.func17, Tryd.ntmps17
      go_wp2
      go_ret
      exact ⟨none, rfl, hb1.out, .inl ⟨rfl, HN.out⟩⟩
    · rcases hc with rfl | ⟨b, off, rfl, hc⟩
      · simp at h2; omega
      · obtain ⟨k, rfl⟩ : ∃ k : Nat, n = (k : Int) + 1 := ⟨(n - 1).toNat, by omega⟩
        have ek : ((k : Int) + 1 - 1).toNat = k := by omega
        have hk : k < T.length := by omega
        have hd := hc k hk
        have HNT := Lib.hid (show nodeT T ((k : Int) + 1) = if (T.getD k zeroNd).st.kind = 0 then none else some (T.getD k zeroNd) by rw [nodeT, if_neg h1, if_neg h2, ek])
        generalize T.getD k zeroNd = d at *
        have hr := (hb1.out.cell (p := ⟨b, off + k * 8, none⟩) hd.lt).trans hd.c0
        have HD := Lib.hid hd
        have hw : IntKind.i64.wrap ((k : Int) + 1 - 1) = (k : Int) := by rw [IntWalk.i64_in _ (by omega)]; omega
        have h1' : ¬ ((k : Int) + 1 < 1) := h1
        have hki : (k : Int) < (T.length : Int) := by omega
        have hk2 : (k : Int) + 1 ≤ (T.length : Int) := by omega
        clear hc hd ek
        by_cases h3 : d.st.kind = 0
        · have HN := Lib.hid (HNT.out.trans (if_pos h3))
          have hb3 : (d.st.kind == 0) = true := by simp [h3]
          rw [h3] at hr
          clear h3 hb3
          go_enter Tryd.func17, Tryd.ntmps17
          go_wp2
          go_ret
          exact ⟨none, rfl, hb1.out, .inl ⟨rfl, HN.out⟩⟩
        · have HN := Lib.hid (HNT.out.trans (if_neg h3))
          have hb3 : (d.st.kind == 0) = false := by simp [h3]
          have H3 := Lib.hid h3
          clear h3
          go_enter Tryd.func17, Tryd.ntmps17
          go_wp2
          go_ret
          exact ⟨_, rfl, hb1.out, .inr ⟨b, off + k * 8, d, by simp, HN.out, HD.out⟩⟩
end Go.Proofs.YtjkephmfpoekgaaDoor.PathLaw
