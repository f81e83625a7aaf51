/- Walks of the functions that the claim reaches. Conditions: none. -/
import Derived.Test.YtoegoigfbldkoaaDoorHf
import Derived.Test.YtoegoigfbldkoaaDoorRows
import Derived.Test.YtoegoigfbldkoaaDoorTie
import Derived.Test.YtoegoigfbldkoaaDoorCards
import Derived.ProofKit
import Derived.LaidMore
import Derived.SevenTiedAt
import Derived.Stop.Joined
set_option linter.all false
set_option linter.unusedSimpArgs false
set_option linter.unusedVariables false
set_option maxRecDepth 10000
set_option maxHeartbeats 1000000
namespace Go.Proofs.YtoegoigfbldkoaaDoor
open Go Go.Cn Go.RowKit

variable {σ : H}
theorem cellsI : Tryd.prog.cellsOf 3 = 1 := by kernel_rfl
theorem cellsB : Tryd.prog.cellsOf 5 = 1 := by kernel_rfl
theorem cellsS : Tryd.prog.cellsOf 9 = 1 := by kernel_rfl
theorem dat_int {v : Value} (h : Dat Tryd.prog σ 3 v) : ∃ n, v = .int .i64 n ∧ -9223372036854775808 ≤ n ∧ n < 9223372036854775808 := by
  simp only [Dat, Tryd.underlying3] at h
  obtain ⟨f, h⟩ := h
  obtain ⟨n, h, h1, h2⟩ := rd_int Tryd.underlying3 h
  injection h with h
  exact ⟨n, h, h1, by have : n ≤ 9223372036854775807 := h2; omega⟩
theorem dat_u8 {v : Value} (h : Dat Tryd.prog σ 5 v) : ∃ n, v = .int .u8 n ∧ 0 ≤ n ∧ n ≤ 255 := by
  simp only [Dat, Tryd.underlying5] at h
  obtain ⟨f, h⟩ := h
  obtain ⟨n, h, h1, h2⟩ := rd_int Tryd.underlying5 h
  injection h with h
  exact ⟨n, h, h1, h2⟩
theorem rd_str {f : Nat} {cs : List Value} (h : Rd Tryd.prog σ f 9 cs) : ∃ s : ByteArray, s.size ≤ maxLen ∧ cs = [.string s] := by
  cases f with
  | zero => exact h.elim
  | succ f =>
    simp only [Rd, Tryd.underlying9] at h
    obtain ⟨s, h1, h2⟩ := h
    exact ⟨s, h2, h1⟩
theorem dat_str {v : Value} (h : Dat Tryd.prog σ 9 v) : ∃ s : ByteArray, v = .string s ∧ s.size ≤ maxLen := by
  simp only [Dat, Tryd.underlying9] at h
  obtain ⟨f, h⟩ := h
  obtain ⟨s, h1, h2⟩ := rd_str h
  injection h2 with h2
  exact ⟨s, h2, h1⟩
theorem dat_bytes {v : Value} (h : Dat Tryd.prog σ 22 v) : ∃ b : List Int, Byt b ∧ Whl σ 1 v b.length (digC b) := by
  simp only [Dat, Tryd.underlying22] at h
  obtain ⟨f, h⟩ := h
  cases f with
  | zero => exact h.elim
  | succ f =>
    simp only [Rd, Tryd.underlying22] at h
    obtain ⟨a, c, xs, g, ok, r, r2⟩ := rd_slice (V := fun x => [.int .u8 x]) (ok := fun x => 0 ≤ x ∧ x ≤ 255) cellsB (fun l hl => let ⟨e, he, h1, h2⟩ := rd_int Tryd.underlying5 hl; ⟨e, ⟨h1, h2⟩, he⟩) h
    injection g with g
    have := Row.whl (cs := digC xs) (v := .slice a xs.length c) (by rw [digC, List.map_map]; exact r) r2
    rw [show (digC xs).length = xs.length by simp [digC]] at this
    exact ⟨xs, ok, g ▸ this⟩
theorem dat_ints {v : Value} (h : Dat Tryd.prog σ 36 v) : ∃ b : List Int, (∀ n ∈ b, -9223372036854775808 ≤ n ∧ n < 9223372036854775808) ∧ Whl σ 1 v b.length (b.map (.int .i64)) := by
  simp only [Dat, Tryd.underlying36] at h
  obtain ⟨f, h⟩ := h
  cases f with
  | zero => exact h.elim
  | succ f =>
    simp only [Rd, Tryd.underlying36] at h
    obtain ⟨a, c, xs, g, ok, r, r2⟩ := rd_slice (V := fun x => [.int .i64 x]) (ok := fun n => -9223372036854775808 ≤ n ∧ n < 9223372036854775808) cellsI (fun l hl => let ⟨e, he, h1, h2⟩ := rd_int Tryd.underlying3 hl; ⟨e, ⟨h1, by have : e ≤ 9223372036854775807 := h2; omega⟩, he⟩) h
    injection g with g
    have := Row.whl (cs := xs.map (.int .i64)) (v := .slice a xs.length c) (by rw [List.map_map]; exact r) r2
    rw [List.length_map] at this
    exact ⟨xs, ok, g ▸ this⟩
theorem dat_strs {v : Value} (h : Dat Tryd.prog σ 26 v) : ∃ b : List ByteArray, (∀ s ∈ b, s.size ≤ maxLen) ∧ Whl σ 1 v b.length (b.map .string) := by
  simp only [Dat, Tryd.underlying26] at h
  obtain ⟨f, h⟩ := h
  cases f with
  | zero => exact h.elim
  | succ f =>
    simp only [Rd, Tryd.underlying26] at h
    obtain ⟨a, c, xs, g, ok, r, r2⟩ := rd_slice (V := fun x => [.string x]) (ok := fun s : ByteArray => s.size ≤ maxLen) cellsS (fun l hl => rd_str hl) h
    injection g with g
    have := Row.whl (cs := xs.map .string) (v := .slice a xs.length c) (by rw [List.map_map]; exact r) r2
    rw [List.length_map] at this
    exact ⟨xs, ok, g ▸ this⟩
end Go.Proofs.YtoegoigfbldkoaaDoor

set_option linter.unusedSimpArgs false
namespace Go.Proofs.YtoegoigfbldkoaaDoor
open Go Go.Cn Go.RowKit Go.ChangeShapes Go.WideShapes

theorem dat_u16 {σ : H} {v : Value} (h : Dat Tryd.prog σ 45 v) : ∃ n, v = .int .u16 n ∧ 0 ≤ n ∧ n ≤ 65535 := by
  simp only [Dat, Tryd.underlying45] at h
  obtain ⟨f, h⟩ := h
  obtain ⟨n, h, h1, h2⟩ := rd_int Tryd.underlying45 h
  injection h with h
  exact ⟨n, h, h1, h2⟩
theorem dat_u64 {σ : H} {v : Value} (h : Dat Tryd.prog σ 28 v) : ∃ n, v = .int .u64 n ∧ 0 ≤ n ∧ n < 18446744073709551616 := by
  simp only [Dat, Tryd.underlying28] at h
  obtain ⟨f, h⟩ := h
  obtain ⟨n, h, h1, h2⟩ := rd_int Tryd.underlying28 h
  injection h with h
  exact ⟨n, h, h1, by have : n ≤ 18446744073709551615 := h2; omega⟩

theorem cellsZ : Tryd.prog.cellsOf 62 = 2 := by kernel_rfl
theorem dat_z {σ : H} {v : Value} (h : Dat Tryd.prog σ 62 v) : ∃ n m, v = .agg #[.int .u8 n, .int .u8 m] ∧ (0 ≤ n ∧ n ≤ 255) ∧ (0 ≤ m ∧ m ≤ 255) := by
  simp only [Dat, Tryd.underlying62] at h
  obtain ⟨cs, f, rfl, h⟩ := h
  cases f with
  | zero => exact h.elim
  | succ f =>
    simp only [Rd, Tryd.underlying62, cellsZ, cellsB] at h
    obtain ⟨hl, h⟩ := h
    obtain ⟨n, g1, n1, n2⟩ := rd_int Tryd.underlying5 (h 0 (by omega))
    obtain ⟨m, g2, m1, m2⟩ := rd_int Tryd.underlying5 (h 1 (by omega))
    refine ⟨n, m, ?_, ⟨n1, n2⟩, m1, m2⟩
    obtain ⟨cs⟩ := cs
    match cs, hl with
    | [x, y], _ =>
      simp at g1 g2
      rw [g1, g2]
abbrev laidA : List (String × DataW Unit) := [("simulacrum/hash.nibbles", Rows.laid_simulacrum_hash_nibbles), ("simulacrum/hash.constants", Rows.laid_simulacrum_hash_constants)]
abbrev laidB : List (String × DataW Unit) := ("simulacrum/simulacrumref02.constants", Rows.laid_simulacrum_simulacrumref02_constants) :: laidA
theorem gRef : Tryd.prog.globalNamed "simulacrum/simulacrumref02.constants" = some 0 := by kernel_rfl
theorem gNib : Tryd.prog.globalNamed "simulacrum/hash.nibbles" = some 1 := by kernel_rfl
theorem gCon : Tryd.prog.globalNamed "simulacrum/hash.constants" = some 2 := by kernel_rfl

theorem vars_A {W : World} {ps : List MemPlace} (h : DataW.LaidVars Tryd.prog W laidA ps) : Tryd.prog.globals.size ≤ W.heap.size ∧ NGlob (abs W) ∧ HGlob (abs W) := by
  obtain ⟨_, n2, q, hq⟩ := laid_rd (t := 79) (e := 28) (n := 16) (k := .u64) (ls := nib.map fun x => (x.toNat : Int)) h gNib (by kernel_rfl) (by kernel_rfl) (by kernel_rfl) (by kernel_rfl) (by kernel_rfl) (by kernel_rfl) rfl
  obtain ⟨c1, c2, _⟩ := laid_rd (t := 73) (e := 49) (n := 64) (k := .u32) (ls := roundK) hq gCon (by kernel_rfl) (by kernel_rfl) (by kernel_rfl) (by kernel_rfl) (by kernel_rfl) (by kernel_rfl) rfl
  refine ⟨?_, ?_, c2⟩
  · have hs : Tryd.prog.globals.size = 3 := by kernel_rfl
    have hg : 2 = 2 := rfl
    omega
  · unfold NGlob nibC
    rw [n2, List.map_map]
    rfl
theorem met_A {W : World} (h : laidMetH Tryd.prog laidA W) : Tryd.prog.globals.size ≤ W.heap.size ∧ NGlob (abs W) ∧ HGlob (abs W) := by
  rw [MakeChecks.laidMetH_plain _ _ _ (by kernel_rfl)] at h
  obtain ⟨ps, h, _⟩ := h
  exact vars_A h
theorem met_B {W : World} (h : laidMetH Tryd.prog laidB W) : (Tryd.prog.globals.size ≤ W.heap.size ∧ NGlob (abs W) ∧ HGlob (abs W)) ∧ Glob (abs W) := by
  rw [MakeChecks.laidMetH_plain _ _ _ (by kernel_rfl)] at h
  obtain ⟨ps, h, _⟩ := h
  obtain ⟨_, c2, q, hq⟩ := laid_rd (t := 73) (e := 49) (n := 64) (k := .u32) (ls := roundK) h gRef (by kernel_rfl) (by kernel_rfl) (by kernel_rfl) (by kernel_rfl) (by kernel_rfl) (by kernel_rfl) rfl
  exact ⟨vars_A hq, c2⟩

theorem own : ownKnob Tryd.prog.godebug = none := by kernel_rfl
theorem laidOut : laidOutB Tryd.prog = true := by kernel_rfl
theorem door_metA (os : Os) (args : Array Value) : laidMetH Tryd.prog laidA ((World.doorLaid Tryd.prog 400 os).forCall (fun _ _ => 0) ⟨#[], args, []⟩).memory :=
  laidMetH_of_parts3 (fuel := 8) (laidMet_of_run' 8 (by kernel_rfl) (by kernel_rfl)) (by kernel_rfl) (by kernel_rfl)
theorem door_metB (os : Os) (args : Array Value) : laidMetH Tryd.prog laidB ((World.doorLaid Tryd.prog 400 os).forCall (fun _ _ => 0) ⟨#[], args, []⟩).memory :=
  laidMetH_of_parts3 (fuel := 8) (laidMet_of_run' 8 (by kernel_rfl) (by kernel_rfl)) (by kernel_rfl) (by kernel_rfl)
end Go.Proofs.YtoegoigfbldkoaaDoor
