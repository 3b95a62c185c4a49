/- This text proves the plain law of queues of nodes: what the links, and the ends, of lists are, and how they turn as a node is pushed, or removed. It has no conditions of its own. -/
namespace Go.Proofs.YtacpjpkhmdcagaaGreat
namespace Fif
/-- Links and ends as data. -/
structure Fs where
  na : Nat → Int
  nb : Nat → Int
  nq : Nat → Int
  ef : Nat → Int
  el : Nat → Int
  en : Nat → Int
def hd : List Nat → Int
  | [] => -1
  | x :: _ => x
def la (l : List Nat) : Int := hd l.reverse
theorem la_nil : la [] = -1 := rfl
theorem la_snoc (l : List Nat) (x : Nat) : la (l ++ [x]) = x := by simp [la, hd]
theorem hd_app (l m : List Nat) (h : l ≠ []) : hd (l ++ m) = hd l := by
  cases l with
  | nil => exact absurd rfl h
  | cons x l => rfl
theorem la_app (l m : List Nat) (h : m ≠ []) : la (l ++ m) = la m := by
  unfold la
  rw [List.reverse_append, hd_app _ _ (by simpa using h)]
theorem split_app {a b c d : List Nat} {m : Nat} (h : a ++ m :: b = c ++ d) : (∃ b1, c = a ++ m :: b1 ∧ b = b1 ++ d) ∨ (∃ a2, d = a2 ++ m :: b ∧ a = c ++ a2) := by
  rcases List.append_eq_append_iff.1 h with ⟨a', h1, h2⟩ | ⟨c', h1, h2⟩
  · cases a' with
    | nil => exact .inr ⟨[], by simpa using h2.symm, by simpa using h1.symm⟩
    | cons x a' =>
      simp only [List.cons_append, List.cons.injEq] at h2
      obtain ⟨rfl, h2⟩ := h2
      exact .inl ⟨a', h1, h2⟩
  · exact .inr ⟨c', h2, h1⟩
theorem snoc_of {l : List Nat} (h : l ≠ []) : ∃ a x, l = a ++ [x] := by
  induction l with
  | nil => exact absurd rfl h
  | cons x l ih =>
    by_cases e : l = []
    · exact ⟨[], x, by simp [e]⟩
    · obtain ⟨a, y, rfl⟩ := ih e
      exact ⟨x :: a, y, rfl⟩
/-- The lists' links. -/
structure Inv (N Q : Nat) (s : Fs) (L : Nat → List Nat) : Prop where
  en : ∀ i, i < Q → s.en i = (L i).length
  ef : ∀ i, i < Q → s.ef i = hd (L i)
  el : ∀ i, i < Q → s.el i = la (L i)
  lt : ∀ i, i < Q → ∀ n ∈ L i, n < N
  link : ∀ i, i < Q → ∀ a n b, L i = a ++ n :: b → s.nq n = i ∧ s.na n = la a ∧ s.nb n = hd b
  loose : ∀ n, n < N → (∀ i, i < Q → n ∉ L i) → s.na n = -1 ∧ s.nb n = -1 ∧ s.nq n = -1
  nodup : ∀ i, i < Q → (L i).Nodup
def up {α : Type} (f : Nat → α) (k : Nat) (v : α) : Nat → α := fun i => if i = k then v else f i
theorem up_same {α : Type} (f : Nat → α) (k : Nat) (v : α) : up f k v k = v := by simp [up]
theorem up_ne {α : Type} (f : Nat → α) {k i : Nat} (v : α) (h : i ≠ k) : up f k v i = f i := by simp [up, h]
theorem Inv.q {N Q : Nat} {s : Fs} {L : Nat → List Nat} (h : Inv N Q s L) {i n : Nat} (hi : i < Q) (hn : n ∈ L i) : s.nq n = i := by
  obtain ⟨a, b, e⟩ := List.append_of_mem hn
  exact (h.link i hi a n b e).1
theorem Inv.one {N Q : Nat} {s : Fs} {L : Nat → List Nat} (h : Inv N Q s L) {i j n : Nat} (hi : i < Q) (hj : j < Q) (hn : n ∈ L i) (hm : n ∈ L j) : i = j := by
  have h1 := h.q hi hn
  have h2 := h.q hj hm
  omega
/-- A node is loose just where its queue is none. -/
theorem Inv.none {N Q : Nat} {s : Fs} {L : Nat → List Nat} (h : Inv N Q s L) {n : Nat} (_hn : n < N) (hq : s.nq n = -1) : ∀ i, i < Q → n ∉ L i := fun i hi hm => by
  have := h.q hi hm
  omega
theorem Inv.some {N Q : Nat} {s : Fs} {L : Nat → List Nat} (h : Inv N Q s L) {n : Nat} (hn : n < N) (hq : s.nq n ≠ -1) : ∃ i, i < Q ∧ n ∈ L i := by
  by_cases e : ∃ i, i < Q ∧ n ∈ L i
  · exact e
  · exact absurd (h.loose n hn (fun i hi hm => e ⟨i, hi, hm⟩)).2.2 hq

def pushS (s : Fs) (L : Nat → List Nat) (i n : Nat) : Fs :=
  ⟨up s.na n (la (L i)), if L i = [] then up s.nb n (-1) else up (up s.nb n (-1)) (la (L i)).toNat n, up s.nq n i, if L i = [] then up s.ef i n else s.ef, up s.el i n, up s.en i (s.en i + 1)⟩
theorem Inv.push {N Q : Nat} {s : Fs} {L : Nat → List Nat} (h : Inv N Q s L) {i n : Nat} (hi : i < Q) (hn : n < N) (hl : ∀ j, j < Q → n ∉ L j) : Inv N Q (pushS s L i n) (up L i (L i ++ [n])) := by
  refine ⟨fun j hj => ?_, fun j hj => ?_, fun j hj => ?_, fun j hj m hm => ?_, fun j hj a m b e => ?_, fun m hm ho => ?_, fun j hj => ?_⟩
  · by_cases e : j = i
    · subst e
      simp [pushS, up_same, h.en j hj]
    · simp [pushS, up_ne _ _ e, h.en j hj]
  · by_cases e : j = i
    · subst e
      rw [up_same]
      by_cases e0 : L j = []
      · simp [pushS, e0, up_same, hd]
      · rw [hd_app _ _ e0, ← h.ef j hj]
        simp [pushS, e0]
    · rw [up_ne _ _ e, ← h.ef j hj]
      by_cases e0 : L i = []
      · simp [pushS, e0, up_ne _ _ e]
      · simp [pushS, e0]
  · by_cases e : j = i
    · subst e
      simp [pushS, up_same, la_snoc]
    · simp [pushS, up_ne _ _ e, h.el j hj]
  · by_cases e : j = i
    · subst e
      rw [up_same] at hm
      rcases List.mem_append.1 hm with hm | hm
      · exact h.lt j hj m hm
      · simp at hm; omega
    · rw [up_ne _ _ e] at hm
      exact h.lt j hj m hm
  · by_cases ej : j = i
    · subst ej
      rw [up_same] at e
      rcases split_app e.symm with ⟨b1, h1, rfl⟩ | ⟨a2, h1, rfl⟩
      · have hm : m ∈ L j := by rw [h1]; simp
        have hmn : m ≠ n := fun e => hl j hj (e ▸ hm)
        obtain ⟨l1, l2, l3⟩ := h.link j hj a m b1 h1
        have hne : L j ≠ [] := by rw [h1]; simp
        refine ⟨by simp [pushS, up_ne _ _ hmn, l1], by simp [pushS, up_ne _ _ hmn, l2], ?_⟩
        by_cases hb : b1 = []
        · subst hb
          have hla : la (L j) = m := by rw [h1, la_snoc]
          simp [pushS, hne, hla, up_same, hd]
        · rw [hd_app _ _ hb, ← l3]
          have hml : m ≠ (la (L j)).toNat := by
            intro em
            obtain ⟨b2, x, rfl⟩ : ∃ b2 x, b1 = b2 ++ [x] := snoc_of hb
            have hla : la (L j) = x := by rw [h1, show a ++ m :: (b2 ++ [x]) = (a ++ m :: b2) ++ [x] by simp, la_snoc]
            rw [hla] at em
            simp at em
            subst em
            have hnd := h.nodup j hj
            rw [h1] at hnd
            simp [List.nodup_append] at hnd
          simp [pushS, hne, up_ne _ _ hml, up_ne _ _ hmn]
      · have : a2 = [] ∧ m = n ∧ b = [] := by
          cases a2 with
          | nil => simp at h1; exact ⟨rfl, h1.1.symm, h1.2⟩
          | cons x a2 => simp at h1
        obtain ⟨rfl, rfl, rfl⟩ := this
        rw [List.append_nil]
        refine ⟨by simp [pushS, up_same], by simp [pushS, up_same], ?_⟩
        by_cases e0 : L j = []
        · simp [pushS, e0, up_same, hd]
        · have hml : m ≠ (la (L j)).toNat := by
            intro em
            obtain ⟨b2, x, hx⟩ : ∃ b2 x, L j = b2 ++ [x] := snoc_of e0
            rw [hx, la_snoc] at em
            simp at em
            subst em
            exact hl j hj (by rw [hx]; simp)
          simp [pushS, e0, up_ne _ _ hml, up_same, hd]
    · rw [up_ne _ _ ej] at e
      have hm : m ∈ L j := by rw [e]; simp
      have hmn : m ≠ n := fun e => hl j hj (e ▸ hm)
      obtain ⟨l1, l2, l3⟩ := h.link j hj a m b e
      refine ⟨by simp [pushS, up_ne _ _ hmn, l1], by simp [pushS, up_ne _ _ hmn, l2], ?_⟩
      by_cases e0 : L i = []
      · simp [pushS, e0, up_ne _ _ hmn, l3]
      · have hml : m ≠ (la (L i)).toNat := by
          intro em
          obtain ⟨b2, x, hx⟩ : ∃ b2 x, L i = b2 ++ [x] := snoc_of e0
          rw [hx, la_snoc] at em
          simp at em
          subst em
          exact ej (h.one hj hi hm (by rw [hx]; simp))
        simp [pushS, e0, up_ne _ _ hml, up_ne _ _ hmn, l3]
  · have hmn : m ≠ n := fun e => ho i hi (by rw [up_same, e]; simp)
    have ho' : ∀ j, j < Q → m ∉ L j := fun j hj hmem => ho j hj (by
      by_cases e : j = i
      · subst e; rw [up_same]; simp [hmem]
      · rw [up_ne _ _ e]; exact hmem)
    obtain ⟨l1, l2, l3⟩ := h.loose m hm ho'
    refine ⟨by simp [pushS, up_ne _ _ hmn, l1], ?_, by simp [pushS, up_ne _ _ hmn, l3]⟩
    by_cases e0 : L i = []
    · simp [pushS, e0, up_ne _ _ hmn, l2]
    · have hml : m ≠ (la (L i)).toNat := by
        intro em
        obtain ⟨b2, x, hx⟩ : ∃ b2 x, L i = b2 ++ [x] := snoc_of e0
        rw [hx, la_snoc] at em
        simp at em
        subst em
        exact ho' i hi (by rw [hx]; simp)
      simp [pushS, e0, up_ne _ _ hml, up_ne _ _ hmn, l2]
  · by_cases e : j = i
    · subst e
      rw [up_same]
      refine List.nodup_append.2 ⟨h.nodup j hj, by simp, fun x hx y hy => ?_⟩
      simp at hy
      subst hy
      exact fun e => hl j hj (e ▸ hx)
    · rw [up_ne _ _ e]
      exact h.nodup j hj

def remS (s : Fs) (i n : Nat) (a b : List Nat) : Fs :=
  ⟨up (if b = [] then s.na else up s.na (hd b).toNat (la a)) n (-1), up (if a = [] then s.nb else up s.nb (la a).toNat (hd b)) n (-1), up s.nq n (-1), if a = [] then up s.ef i (hd b) else s.ef, if b = [] then up s.el i (la a) else s.el, up s.en i (s.en i - 1)⟩
theorem Inv.remove {N Q : Nat} {s : Fs} {L : Nat → List Nat} (h : Inv N Q s L) {i n : Nat} {a b : List Nat} (hi : i < Q) (he : L i = a ++ n :: b) : Inv N Q (remS s i n a b) (up L i (a ++ b)) := by
  have hnd := h.nodup i hi
  rw [he] at hnd
  have hna : n ∉ a := fun hm => by
    simp [List.nodup_append] at hnd
    exact (hnd.2.2 n hm).1 rfl
  have hnb : n ∉ b := fun hm => by
    simp [List.nodup_append] at hnd
    exact hnd.2.1.1 hm
  have hab : ∀ x ∈ a, x ∉ b := fun x hx hb => by
    simp [List.nodup_append] at hnd
    exact (hnd.2.2 x hx).2 x hb rfl
  have hmem : n ∈ L i := by rw [he]; simp
  have lan : ∀ a', a' ≠ [] → ∃ y, y ∈ a' ∧ la a' = y := fun a' h' => by
    obtain ⟨c, x, rfl⟩ := snoc_of h'
    exact ⟨x, by simp, la_snoc _ _⟩
  have hdn : ∀ b', b' ≠ [] → ∃ y, y ∈ b' ∧ hd b' = y := fun b' h' => by
    cases b' with
    | nil => exact absurd rfl h'
    | cons x l => exact ⟨x, by simp, rfl⟩
  -- what becomes of another node's links
  have hA : ∀ m, m ≠ n → (b = [] ∨ m ≠ (hd b).toNat) → (remS s i n a b).na m = s.na m := by
    intro m h1 h2
    simp only [remS]
    rw [up_ne _ _ h1]
    rcases h2 with h2 | h2
    · simp [h2]
    · split
      · rfl
      · rw [up_ne _ _ h2]
  have hB : ∀ m, m ≠ n → (a = [] ∨ m ≠ (la a).toNat) → (remS s i n a b).nb m = s.nb m := by
    intro m h1 h2
    simp only [remS]
    rw [up_ne _ _ h1]
    rcases h2 with h2 | h2
    · simp [h2]
    · split
      · rfl
      · rw [up_ne _ _ h2]
  have hQ : ∀ m, m ≠ n → (remS s i n a b).nq m = s.nq m := fun m h1 => by simp only [remS]; rw [up_ne _ _ h1]
  have out : ∀ m, m ∉ a → m ∉ b → m ≠ n → (remS s i n a b).na m = s.na m ∧ (remS s i n a b).nb m = s.nb m ∧ (remS s i n a b).nq m = s.nq m := by
    intro m h1 h2 h3
    refine ⟨hA m h3 ?_, hB m h3 ?_, hQ m h3⟩
    · by_cases e : b = []
      · exact .inl e
      · obtain ⟨y, hy, e1⟩ := hdn b e
        exact .inr (fun e2 => h2 (by rw [e1] at e2; simp at e2; rw [e2]; exact hy))
    · by_cases e : a = []
      · exact .inl e
      · obtain ⟨y, hy, e1⟩ := lan a e
        exact .inr (fun e2 => h1 (by rw [e1] at e2; simp at e2; rw [e2]; exact hy))
  refine ⟨fun j hj => ?_, fun j hj => ?_, fun j hj => ?_, fun j hj m hm => ?_, fun j hj c m d e => ?_, fun m hm ho => ?_, fun j hj => ?_⟩
  · by_cases e : j = i
    · subst e
      simp [remS, up_same, h.en j hj, he]
      omega
    · simp [remS, up_ne _ _ e, h.en j hj]
  · by_cases e : j = i
    · subst e
      rw [up_same]
      by_cases e0 : a = []
      · simp [remS, e0, up_same]
      · rw [hd_app _ _ e0]
        have := h.ef j hj
        rw [he, hd_app _ _ e0] at this
        simp [remS, e0, this]
    · rw [up_ne _ _ e, ← h.ef j hj]
      by_cases e0 : a = []
      · simp [remS, e0, up_ne _ _ e]
      · simp [remS, e0]
  · by_cases e : j = i
    · subst e
      rw [up_same]
      by_cases e0 : b = []
      · simp [remS, e0, up_same]
      · rw [la_app _ _ e0]
        have := h.el j hj
        rw [he, la_app _ _ (by simp), show n :: b = [n] ++ b from rfl, la_app _ _ e0] at this
        simp [remS, e0, this]
    · rw [up_ne _ _ e, ← h.el j hj]
      by_cases e0 : b = []
      · simp [remS, e0, up_ne _ _ e]
      · simp [remS, e0]
  · by_cases e : j = i
    · subst e
      rw [up_same] at hm
      exact h.lt j hj m (by rw [he]; simp at hm ⊢; rcases hm with hm | hm; exact .inl hm; exact .inr (.inr hm))
    · rw [up_ne _ _ e] at hm
      exact h.lt j hj m hm
  · by_cases ej : j = i
    · subst ej
      rw [up_same] at e
      rcases split_app e.symm with ⟨b1, h1, rfl⟩ | ⟨a2, h1, rfl⟩
      · have hma : m ∈ a := by rw [h1]; simp
        have hmn : m ≠ n := fun e => hna (e ▸ hma)
        have hmb := hab m hma
        obtain ⟨l1, l2, l3⟩ := h.link j hj c m (b1 ++ n :: b) (by rw [he, h1]; simp)
        have hane : a ≠ [] := by rw [h1]; simp
        have h2 : b = [] ∨ m ≠ (hd b).toNat := by
          by_cases e : b = []
          · exact .inl e
          · obtain ⟨y, hy, e1⟩ := hdn b e
            exact .inr (fun e2 => hmb (by rw [e1] at e2; simp at e2; rw [e2]; exact hy))
        refine ⟨by rw [hQ m hmn]; exact l1, by rw [hA m hmn h2]; exact l2, ?_⟩
        by_cases hb1 : b1 = []
        · subst hb1
          have hla : la a = m := by rw [h1, la_snoc]
          simp [remS, hane, hla, up_ne _ _ hmn, up_same]
        · rw [hd_app _ _ hb1] at l3 ⊢
          rw [hB m hmn (.inr ?_)]
          · exact l3
          · intro em
            obtain ⟨b2, x, rfl⟩ := snoc_of hb1
            have hla : la a = x := by rw [h1, show c ++ m :: (b2 ++ [x]) = (c ++ m :: b2) ++ [x] by simp, la_snoc]
            rw [hla] at em
            simp at em
            subst em
            have hnd2 := h.nodup j hj
            rw [he, h1] at hnd2
            simp [List.nodup_append] at hnd2
      · have hmb : m ∈ b := by rw [h1]; simp
        have hmn : m ≠ n := fun e => hnb (e ▸ hmb)
        have hma : m ∉ a := fun hx => hab m hx hmb
        obtain ⟨l1, l2, l3⟩ := h.link j hj (a ++ n :: a2) m d (by rw [he, h1]; simp)
        have hbne : b ≠ [] := by rw [h1]; simp
        have h2 : a = [] ∨ m ≠ (la a).toNat := by
          by_cases e : a = []
          · exact .inl e
          · obtain ⟨y, hy, e1⟩ := lan a e
            exact .inr (fun e2 => hma (by rw [e1] at e2; simp at e2; rw [e2]; exact hy))
        refine ⟨by rw [hQ m hmn]; exact l1, ?_, by rw [hB m hmn h2]; exact l3⟩
        by_cases ha2 : a2 = []
        · subst ha2
          have hhd : hd b = m := by rw [h1]; rfl
          simp [remS, hbne, hhd, up_ne _ _ hmn, up_same]
        · rw [la_app _ _ ha2]
          rw [show a ++ n :: a2 = (a ++ [n]) ++ a2 by simp, la_app _ _ ha2] at l2
          rw [hA m hmn (.inr ?_)]
          · exact l2
          · intro em
            cases a2 with
            | nil => exact ha2 rfl
            | cons x a2 =>
              rw [h1] at em
              simp [hd] at em
              subst em
              have hnd2 := h.nodup j hj
              rw [he, h1] at hnd2
              simp [List.nodup_append] at hnd2
    · rw [up_ne _ _ ej] at e
      have hm : m ∈ L j := by rw [e]; simp
      have hno : m ∉ L i := fun hx => ej (h.one hj hi hm hx)
      rw [he] at hno
      simp only [List.mem_append, List.mem_cons, not_or] at hno
      obtain ⟨o1, o2, o3⟩ := out m hno.1 hno.2.2 hno.2.1
      rw [o1, o2, o3]
      exact h.link j hj c m d e
  · by_cases hmn : m = n
    · subst hmn
      simp [remS, up_same]
    · have ho' : ∀ j, j < Q → m ∉ L j := fun j hj hx => by
        by_cases e : j = i
        · subst e
          refine ho j hj ?_
          rw [up_same]
          rw [he] at hx
          simp at hx ⊢
          rcases hx with hx | hx | hx
          · exact .inl hx
          · exact absurd hx hmn
          · exact .inr hx
        · exact ho j hj (by rw [up_ne _ _ e]; exact hx)
      have hno := ho' i hi
      rw [he] at hno
      simp only [List.mem_append, List.mem_cons, not_or] at hno
      obtain ⟨o1, o2, o3⟩ := out m hno.1 hno.2.2 hno.2.1
      rw [o1, o2, o3]
      exact h.loose m hm ho'
  · by_cases e : j = i
    · subst e
      rw [up_same]
      exact hnd.sublist (by simp)
    · rw [up_ne _ _ e]
      exact h.nodup j hj
theorem len_le : ∀ (N : Nat) (l : List Nat), l.Nodup → (∀ x ∈ l, x < N) → l.length ≤ N
  | 0, l, _, h => by
    cases l with
    | nil => simp
    | cons x l => exact absurd (h x (by simp)) (Nat.not_lt_zero _)
  | N + 1, l, hn, h => by
    by_cases hm : N ∈ l
    · obtain ⟨a, b, rfl⟩ := List.append_of_mem hm
      have hn' : (a ++ b).Nodup := hn.sublist (by simp)
      have hN : ∀ x ∈ a ++ b, x < N := fun x hx => by
        have h1 := h x (by simp at hx ⊢; rcases hx with hx | hx; exact .inl hx; exact .inr (.inr hx))
        have h2 : x ≠ N := fun e => by
          subst e
          simp [List.nodup_append] at hn
          simp at hx
          rcases hx with hx | hx
          · exact (hn.2.2 x hx).1 rfl
          · exact hn.2.1.1 hx
        omega
      have := len_le N (a ++ b) hn' hN
      simp at this ⊢
      omega
    · have := len_le N l hn (fun x hx => by
        have h1 := h x hx
        have h2 : x ≠ N := fun e => hm (e ▸ hx)
        omega)
      omega
def fs0 : Fs := ⟨fun _ => -1, fun _ => -1, fun _ => -1, fun _ => -1, fun _ => -1, fun _ => 0⟩
theorem inv0 (N Q : Nat) : Inv N Q fs0 (fun _ => []) :=
  ⟨fun _ _ => rfl, fun _ _ => rfl, fun _ _ => rfl, fun _ _ _ h => (by cases h), fun _ _ a n b e => (by simp at e), fun _ _ _ => ⟨rfl, rfl, rfl⟩, fun _ _ => List.nodup_nil⟩
end Fif
end Go.Proofs.YtacpjpkhmdcagaaGreat
