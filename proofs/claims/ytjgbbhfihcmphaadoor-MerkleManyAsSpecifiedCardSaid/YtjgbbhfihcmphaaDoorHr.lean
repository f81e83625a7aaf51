/- Walks of the functions that the claim reaches. Conditions: none. -/
import Derived.Test.YtjgbbhfihcmphaaDoorNi
import Derived.Test.YtjgbbhfihcmphaaDoorRows
import Derived.Test.YtjgbbhfihcmphaaDoorTie
import Derived.Test.YtjgbbhfihcmphaaDoorCards
import Derived.ProofKit
import Derived.LaidMore
import Derived.Lay
import Derived.SevenTiedAt
import Derived.Stop.Joined
set_option linter.all false
set_option maxRecDepth 10000
namespace Go.Proofs.YtjgbbhfihcmphaaDoor
open Go Go.Cn Go.RowKit Go.ChangeShapes Go.WideShapes
section
variable {σ : H}
theorem cellsDig : Tryd.prog.cellsOf 31 = 16 := by kernel_rfl
theorem bytesDig : Tryd.prog.bytesOf 31 = 16 := by kernel_rfl
theorem bytesInt : Tryd.prog.bytesOf 3 = 8 := by kernel_rfl
theorem page_of : ∀ {cs : List Value}, (∀ i, i < cs.length → ∃ n, cs[i]? = some (.int .u8 n)) → ∃ d, cs = digC d ∧ d.length = cs.length
 |[], _ => ⟨[], rfl, rfl⟩
 |c :: cs, h => by
  obtain ⟨n, hn⟩ := h 0 (by simp)
  obtain ⟨d, rfl, hd⟩ := page_of (cs := cs) fun i hi => by
   obtain ⟨m, hm⟩ := h (i + 1) (by simpa using hi)
   exact ⟨m, by simpa using hm⟩
  simp at hn
  exact ⟨n :: d, by simp [digC, hn], by simp [hd]⟩
theorem rd_dig {f : Nat} {cs : List Value} (h : RdS Tryd.prog σ f 31 cs) : ∃ d : List Int, d.length = 16 ∧ cs = digC d := by
 cases f with
 |zero => exact h.elim
 |succ f =>
  simp only [RdS, Tryd.underlying31, cellsDig, cellsB] at h
  obtain ⟨h1, h2⟩ := h
  obtain ⟨d, hd, hl⟩ := page_of (cs := cs) fun i hi => by
   obtain ⟨n, hn, h0, h1'⟩ := rd_int Tryd.underlying5 (rds_rd (h2 i (by omega)))
   refine ⟨n, ?_⟩
   have : ((cs.drop (i * 1)).take 1)[0]? = some (.int .u8 n) := by rw [hn]; rfl
   simpa [List.getElem?_take, List.getElem?_drop] using this
  exact ⟨d, hl.trans h1, hd⟩
theorem rds_digs {f : Nat} {cs : List Value} (h : RdS Tryd.prog σ f 22 cs) : ∃ v L, cs = [v] ∧ Ls σ v L ∧ L.length < 20000000000000 := by
 cases f with
 |zero => exact h.elim
 |succ f =>
  simp only [RdS, Tryd.underlying22] at h
  obtain ⟨a, c, D, g, okD, rD, cD, wD⟩ := rds_slice (V := digC) (ok := fun d => d.length = 16) cellsDig (fun l hl => rd_dig hl) h
  rw [bytesDig] at wD
  have hr : reachBytes = 140737488351232 := rfl
  exact ⟨_, D, g, ⟨rD, cD, okD⟩, by omega⟩
theorem dat_digs {v : Value} (h : DatS Tryd.prog σ 22 v) : ∃ L, Ls σ v L ∧ L.length < 20000000000000 := by
 simp only [DatS, Tryd.underlying22] at h
 obtain ⟨f, h⟩ := h
 obtain ⟨u, L, g, h1, h2⟩ := rds_digs h
 injection g with g
 exact ⟨L, g ▸ h1, h2⟩
theorem dat_dig {v : Value} (h : DatS Tryd.prog σ 31 v) : ∃ d, v = .agg (digC d).toArray ∧ d.length = 16 := by
 simp only [DatS, Tryd.underlying31] at h
 obtain ⟨cs, f, rfl, h⟩ := h
 obtain ⟨d, h1, h2⟩ := rd_dig h
 exact ⟨d, by rw [← h2], h1⟩
theorem dat_places {v : Value} (h : DatS Tryd.prog σ 37 v) : ∃ Q, Ps σ v Q ∧ Q.length < 20000000000000 ∧ ∀ n ∈ Q, -9223372036854775808 ≤ n ∧ n < 9223372036854775808 := by
 simp only [DatS, Tryd.underlying37] at h
 obtain ⟨f, h⟩ := h
 cases f with
 |zero => exact h.elim
 |succ f =>
  simp only [RdS, Tryd.underlying37] at h
  obtain ⟨a, c, Q, g, okQ, rQ, cQ, wQ⟩ := rds_slice (V := intC) (ok := fun n => -9223372036854775808 ≤ n ∧ n < 9223372036854775808) cellsI (fun l hl => let ⟨e, he, h1, h2⟩ := rd_int Tryd.underlying3 (rds_rd hl); ⟨e, ⟨h1, by have : e ≤ 9223372036854775807 := h2; omega⟩, he⟩) h
  rw [bytesInt] at wQ
  have hr : reachBytes = 140737488351232 := rfl
  injection g with g
  exact ⟨Q, g ▸ ⟨rQ, cQ⟩, by omega, okQ⟩
end
abbrev laidA : List (String × DataW Unit) := [("math/bits.deBruijn32tab", Rows.laid_math_bits_deBruijn32tab), ("math/bits.deBruijn64tab", Rows.laid_math_bits_deBruijn64tab), ("simulacrum/simulacrumref02.constants", Rows.laid_simulacrum_simulacrumref02_constants), ("simulacrum/hash.constants", Rows.laid_simulacrum_hash_constants)]
theorem g32 : Tryd.prog.globalNamed "math/bits.deBruijn32tab" = some 0 := by kernel_rfl
theorem g64 : Tryd.prog.globalNamed "math/bits.deBruijn64tab" = some 1 := by kernel_rfl
theorem gRef : Tryd.prog.globalNamed "simulacrum/simulacrumref02.constants" = some 3 := by kernel_rfl
theorem gCon : Tryd.prog.globalNamed "simulacrum/hash.constants" = some 2 := by kernel_rfl
def tab32 : List Int := [0, 1, 28, 2, 29, 14, 24, 3, 30, 22, 20, 15, 25, 17, 4, 8, 31, 27, 13, 23, 21, 19, 16, 7, 26, 12, 18, 6, 11, 5, 10, 9]
theorem met_A {W : World} (h : laidMetH Tryd.prog laidA W) : HGlob (abs W) ∧ Glob (abs W) ∧ BGlob (abs W) := by
 rw [MakeChecks.laidMetH_plain _ _ _ (by kernel_rfl)] at h
 obtain ⟨ps, h, _⟩ := h
 obtain ⟨_, _, _, h⟩ := laid_rd (t := 108) (e := 5) (n := 32) (k := .u8) (ls := tab32) h g32 (by kernel_rfl) (by kernel_rfl) (by kernel_rfl) (by kernel_rfl) (by kernel_rfl) (by kernel_rfl) rfl
 obtain ⟨_, c1, _, h⟩ := laid_rd (t := 102) (e := 5) (n := 64) (k := .u8) (ls := tab64) h g64 (by kernel_rfl) (by kernel_rfl) (by kernel_rfl) (by kernel_rfl) (by kernel_rfl) (by kernel_rfl) rfl
 obtain ⟨_, c2, _, h⟩ := laid_rd (t := 123) (e := 100) (n := 64) (k := .u32) (ls := roundK) h gRef (by kernel_rfl) (by kernel_rfl) (by kernel_rfl) (by kernel_rfl) (by kernel_rfl) (by kernel_rfl) rfl
 obtain ⟨_, c3, _⟩ := laid_rd (t := 123) (e := 100) (n := 64) (k := .u32) (ls := roundK) h gCon (by kernel_rfl) (by kernel_rfl) (by kernel_rfl) (by kernel_rfl) (by kernel_rfl) (by kernel_rfl) rfl
 exact ⟨c3, c2, c1⟩
theorem globs (W : World) (h : W.ShapedOpen Tryd.prog) : Tryd.prog.globals.size ≤ W.heap.size := shaped_globals (.inl (by kernel_rfl)) W h
theorem own : ownKnob Tryd.prog.godebug = none := by kernel_rfl
theorem laidOut : laidOutB Tryd.prog = true := by kernel_rfl
theorem door_metA (os : Os) (args : Array Value) : laidMetH Tryd.prog laidA ((World.laidAll Tryd.prog os laidA).forCall (fun _ _ => 0) ⟨#[], args, []⟩).memory := by
 rw [MakeChecks.laidMetH_plain _ _ _ (by kernel_rfl)]
 exact laidMet_laidAll _ (by kernel_rfl) (by kernel_rfl)
def digZ : Value := .agg #[.int .u8 0, .int .u8 0, .int .u8 0, .int .u8 0, .int .u8 0, .int .u8 0, .int .u8 0, .int .u8 0, .int .u8 0, .int .u8 0, .int .u8 0, .int .u8 0, .int .u8 0, .int .u8 0, .int .u8 0, .int .u8 0]
end Go.Proofs.YtjgbbhfihcmphaaDoor
