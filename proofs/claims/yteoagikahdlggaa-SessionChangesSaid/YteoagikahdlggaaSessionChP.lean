/- This text proves the plain law of a table's changes. It has no conditions of its own. -/
import Derived.Test.YteoagikahdlggaaSession
namespace Go.Proofs.Yteoagikahdlggaa
namespace Ses
/-- The rows at which the phase is another one. -/
def chgF : Int → List Row → List Row
  | _, [] => []
  | p, r :: l => if r.phase = p then chgF p l else r :: chgF r.phase l
def lastP : Int → List Row → Int
  | p, [] => p
  | _, r :: l => lastP r.phase l
theorem lastP_snoc (p : Int) (l : List Row) (r : Row) : lastP p (l ++ [r]) = r.phase := by
  induction l generalizing p with
  | nil => rfl
  | cons x l ih => exact ih x.phase
theorem chgF_snoc (p : Int) (l : List Row) (r : Row) : chgF p (l ++ [r]) = chgF p l ++ (if r.phase = lastP p l then [] else [r]) := by
  induction l generalizing p with
  | nil => by_cases e : r.phase = p <;> simp [chgF, lastP, e]
  | cons x l ih =>
    simp only [List.cons_append, chgF, lastP]
    by_cases e : x.phase = p
    · rw [if_pos e, if_pos e, ih p]
      cases l with
      | nil => by_cases e2 : r.phase = p <;> simp [chgF, lastP, e, e2]
      | cons y l => rfl
    · rw [if_neg e, if_neg e, ih x.phase]
      rfl
theorem chgF_len (p : Int) (l : List Row) : (chgF p l).length ≤ l.length := by
  induction l generalizing p with
  | nil => exact Nat.le_refl _
  | cons x l ih =>
    simp only [chgF]
    by_cases e : x.phase = p
    · rw [if_pos e]
      have := ih p
      simp only [List.length_cons]
      omega
    · rw [if_neg e]
      have := ih x.phase
      simp only [List.length_cons]
      omega
theorem chgF_same {p : Int} {l : List Row} {r : Row} (h : r.phase = lastP p l) : chgF p (l ++ [r]) = chgF p l := by rw [chgF_snoc, if_pos h, List.append_nil]
theorem chgF_new {p : Int} {l : List Row} {r : Row} (h : r.phase ≠ lastP p l) : chgF p (l ++ [r]) = chgF p l ++ [r] := by rw [chgF_snoc, if_neg h]
theorem chgF_pre (p : Int) (l m : List Row) : chgF p l <+: chgF p (l ++ m) := by
  induction m generalizing l with
  | nil => rw [List.append_nil]; exact List.prefix_rfl
  | cons x m ih =>
    have h1 := ih (l ++ [x])
    rw [List.append_assoc] at h1
    refine List.IsPrefix.trans ?_ h1
    rw [chgF_snoc]
    exact List.prefix_append _ _
end Ses
end Go.Proofs.Yteoagikahdlggaa
