/-
  Layer 8, in plain terms: the search within a region, with what it has come to so far.
-/
import Derived.Test.YtlpffgndackglaaFl1
import Derived.Test.YtlpffgndackglaaRe0
namespace Go.Re
open Go.Fl
set_option linter.unusedVariables false
set_option linter.unusedSimpArgs false
set_option linter.unusedVariables false

/-- The search's state, and the cells in the order in which they were reached. -/
abbrev SH := St × List Nat
def reachH (c : Nat) (n : Int) (x : SH) : SH := if x.1.op.getD c false = true then (⟨x.1.op.set c false, x.1.out.set c n, x.1.q ++ [c]⟩, x.2 ++ [c]) else x
def tryH (mv : MV) (c : Nat) (x : SH) (d : Nat) : SH := match mv c d with
  | some n => reachH n (x.1.out.getD c (-1) + 1) x
  | none => x
def expandH (mv : MV) (c : Nat) (x : SH) : SH := (List.range 6).foldl (tryH mv c) x
def bfsH (mv : MV) : Nat → SH → SH
  | 0, x => x
  | k + 1, x => match x.1.q with
    | [] => x
    | c :: r => bfsH mv k (expandH mv c (⟨x.1.op, x.1.out, r⟩, x.2))
def fromH : List Nat → SH → SH
  | [], x => x
  | c :: r, x => fromH r (reachH c 0 x)
theorem reachH_1 {c : Nat} {n : Int} {x : SH} : (reachH c n x).1 = reachM c n x.1 := by
  unfold reachH reachM
  split <;> rfl
theorem tryH_1 {mv : MV} {c d : Nat} {x : SH} : (tryH mv c x d).1 = tryM mv c x.1 d := by
  unfold tryH tryM
  cases mv c d with
  | none => rfl
  | some n => exact reachH_1
theorem foldH_1 {mv : MV} {c : Nat} : ∀ (l : List Nat) (x : SH), (l.foldl (tryH mv c) x).1 = l.foldl (tryM mv c) x.1
  | [], _ => rfl
  | d :: l, x => by rw [List.foldl_cons, List.foldl_cons, foldH_1 l, tryH_1]
theorem bfsH_1 {mv : MV} : ∀ (k : Nat) (x : SH), (bfsH mv k x).1 = bfs mv k x.1
  | 0, _ => rfl
  | k + 1, x => by
    unfold bfsH bfs
    cases hq : x.1.q with
    | nil => rfl
    | cons c r => simp only; rw [bfsH_1 k]; unfold expandH expand; rw [foldH_1]
theorem fromH_1 : ∀ (l : List Nat) (x : SH), (fromH l x).1 = fromM l x.1
  | [], _ => rfl
  | c :: r, x => by unfold fromH fromM; rw [fromH_1 r, reachH_1]
theorem fromH_snoc (c : Nat) : ∀ (l : List Nat) (x : SH), fromH (l ++ [c]) x = reachH c 0 (fromH l x)
  | [], _ => rfl
  | d :: l, x => by simp only [List.cons_append, fromH]; exact fromH_snoc c l _
def startH (N : Nat) (ok : Nat → Bool) : SH := (startS N ok, [])
def spreadH (N : Nat) (mv : MV) (ok : Nat → Bool) (l : List Nat) : SH := bfsH mv N (fromH l (startH N ok))
theorem spreadH_1 (N : Nat) (mv : MV) (ok : Nat → Bool) (l : List Nat) : (spreadH N mv ok l).1 = spreadM N mv ok l := by
  unfold spreadH spreadM
  rw [bfsH_1, fromH_1]; rfl

/-- Those that were reached are those that have a distance. -/
structure HInv (N : Nat) (x : SH) : Prop where
  nd : x.2.Nodup
  lt : ∀ c, c ∈ x.2 → c < N
  mem : ∀ c, c < N → (c ∈ x.2 ↔ 0 ≤ x.1.out.getD c (-1))
theorem HInv.reach {N : Nat} {x : SH} {c : Nat} {n : Int} (h : HInv N x) (hc : c < N) (hl : x.1.out.length = N) (hn : 0 ≤ n) (hop : x.1.op.getD c false = true → x.1.out.getD c (-1) < 0) : HInv N (reachH c n x) := by
  unfold reachH
  split
  · rename_i hp
    have hlt := hop hp
    have hni : c ∉ x.2 := fun hm => by have := (h.mem c hc).1 hm; omega
    refine ⟨?_, fun y hy => ?_, fun y hy => ?_⟩
    · rw [List.nodup_append]
      exact ⟨h.nd, List.nodup_cons.2 ⟨by simp, List.nodup_nil⟩, fun a ha b hb e => hni (by rw [← List.mem_singleton.1 hb, ← e]; exact ha)⟩
    · rcases List.mem_append.1 hy with hy | hy
      · exact h.lt y hy
      · rw [List.mem_singleton.1 hy]; exact hc
    · simp only
      rw [List.mem_append, List.mem_singleton, getD_set]
      by_cases e : c = y
      · subst e
        rw [if_pos ⟨rfl, by omega⟩]
        simp [hn]
      · rw [if_neg (fun q => e q.1), h.mem y hy]
        constructor
        · rintro (h1 | h1)
          · exact h1
          · exact absurd h1.symm e
        · exact .inl
  · exact h
end Go.Re
