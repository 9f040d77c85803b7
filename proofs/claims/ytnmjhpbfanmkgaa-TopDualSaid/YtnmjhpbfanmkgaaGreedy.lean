/- Placing one thing after another: what is needed of the greedy schedule. -/
import Derived.Test.YtnmjhpbfanmkgaaBase
namespace Go.Proofs.Bins
theorem upd_comm {f : Nat → Int} {a b : Nat} (h : a ≠ b) (v u : Int) : upd (upd f a v) b u = upd (upd f b u) a v := by
  funext i
  unfold upd
  by_cases e1 : i = b
  · subst e1
    rw [if_pos rfl, if_neg (fun e => h e.symm), if_pos rfl]
  · rw [if_neg e1, if_neg e1]
theorem can_perm {n : Nat} {F : Int} {r r' : List Int} (h : r.Perm r') : (∀ x ∈ r, 0 ≤ x) → ∀ ms : Nat → Int, can n F r ms → can n F r' ms := by
  induction h with
  | nil => exact fun _ _ h => h
  | cons x _ ih =>
    rintro hx ms ⟨b, h1, h2, h3⟩
    exact ⟨b, h1, h2, ih (fun y hy => hx y (List.mem_cons_of_mem _ hy)) _ h3⟩
  | swap x y r =>
    rintro hx ms ⟨b, h1, h2, c, h3, h4, h5⟩
    have y0 := hx y (List.mem_cons_self ..)
    have x0 := hx x (List.mem_cons_of_mem _ (List.mem_cons_self ..))
    by_cases e : b = c
    · subst e
      have e1 : upd ms b (ms b + y) b = ms b + y := by unfold upd; rw [if_pos rfl]
      have e2 : upd ms b (ms b + x) b = ms b + x := by unfold upd; rw [if_pos rfl]
      rw [e1] at h4 h5
      refine ⟨b, h1, by omega, b, h1, by rw [e2]; omega, ?_⟩
      rw [e2]
      have e3 : upd (upd ms b (ms b + x)) b (ms b + x + y) = upd (upd ms b (ms b + y)) b (ms b + y + x) := by
        funext i
        unfold upd
        split
        · omega
        · rfl
      rw [e3]
      exact h5
    · have e1 : upd ms b (ms b + y) c = ms c := by unfold upd; rw [if_neg (fun g => e g.symm)]
      have e2 : upd ms c (ms c + x) b = ms b := by unfold upd; rw [if_neg e]
      rw [e1] at h4 h5
      refine ⟨c, h3, h4, b, h1, by rw [e2]; exact h2, ?_⟩
      rw [e2, upd_comm (fun g => e g.symm)]
      exact h5
  | trans _ _ ih1 ih2 =>
    rename_i a b c h1 h2
    intro hx ms h
    exact ih2 (fun y hy => hx y (h1.mem_iff.2 hy)) ms (ih1 hx ms h)
theorem tot_perm {r r' : List Int} (h : r.Perm r') : tot id r = tot id r' := by
  induction h with
  | nil => rfl
  | cons x _ ih => rw [tot, tot, ih]
  | swap x y r => rw [tot, tot, tot, tot]; simp only [id]; omega
  | trans _ _ ih1 ih2 => rw [ih1, ih2]
/-- What is true of the loads after a part of the things. -/
structure Placed (n : Nat) (xs : List Int) (k : Nat) (L : Nat → Int) : Prop where
  lo : ∀ q, 0 ≤ L q
  hi : ∀ q, L q ≤ tot id (xs.take k)
  back : ∀ F, (∀ q, q < n → L q ≤ F) → can n F (xs.drop k) L → can n F xs (fun _ => 0)
theorem Placed.start (n : Nat) (xs : List Int) : Placed n xs 0 (fun _ => 0) := ⟨fun _ => Int.le_refl _, fun _ => Int.le_refl _, fun _ _ h => h⟩
theorem tot_append (a b : List Int) : tot id (a ++ b) = tot id a + tot id b := by
  induction a with
  | nil => rw [List.nil_append, tot]; omega
  | cons x t ih => rw [List.cons_append, tot, tot, ih]; omega
theorem Placed.step {n : Nat} {xs : List Int} {k : Nat} {L : Nat → Int} (h : Placed n xs k L) (hk : k < xs.length) {x : Int} (hx : x = at_ xs k) (h0 : 0 ≤ x) {p : Nat} (hp : p < n) : Placed n xs (k + 1) (upd L p (L p + x)) := by
  have ht : tot id (xs.take (k + 1)) = tot id (xs.take k) + x := by
    rw [List.take_succ_eq_append_getElem hk, tot_append, tot, tot]
    have : x = xs[k] := by rw [hx]; simp [at_, List.getD_eq_getElem?_getD, hk]
    simp only [id]; omega
  refine ⟨fun q => ?_, fun q => ?_, fun F hF hc => ?_⟩
  · unfold upd; split
    · have := h.lo p; omega
    · exact h.lo q
  · rw [ht]
    unfold upd; split
    · have := h.hi p; omega
    · have := h.hi q; omega
  · have hp2 := hF p hp
    have ep : upd L p (L p + x) p = L p + x := by unfold upd; rw [if_pos rfl]
    rw [ep] at hp2
    refine h.back F (fun q hq => ?_) ?_
    · have := hF q hq
      unfold upd at this
      split at this
      · rename_i e; subst e; omega
      · exact this
    · rw [drop_at hk, ← hx]
      exact ⟨p, hp, hp2, hc⟩
theorem Placed.finish {n : Nat} {xs : List Int} {L : Nat → Int} {h : Int} (H : Placed n xs xs.length L) (hh : ∀ q, q < n → L q ≤ h) : can n h xs (fun _ => 0) :=
  H.back h hh (by rw [List.drop_length]; trivial)
theorem at_set {l : List Int} {p : Nat} (hp : p < l.length) (v : Int) : at_ (l.set p v) = upd (at_ l) p v := by
  funext i
  show (l.set p v).getD i 0 = if i = p then v else l.getD i 0
  simp only [List.getD_eq_getElem?_getD, List.getElem?_set]
  by_cases e : i = p
  · subst e; rw [if_pos rfl, if_pos rfl, if_pos hp]; rfl
  · rw [if_neg (fun g => e g.symm), if_neg e]
theorem at_replicate (n : Nat) : at_ (List.replicate n 0) = fun _ => 0 := by
  funext i
  show (List.replicate n 0).getD i 0 = 0
  rw [List.getD_eq_getElem?_getD, List.getElem?_replicate]
  split <;> rfl
theorem foldl_max : ∀ (zs : List Int) (a : Int), a ≤ zs.foldl max a ∧ (∀ z ∈ zs, z ≤ zs.foldl max a) ∧ (zs.foldl max a = a ∨ zs.foldl max a ∈ zs)
  | [], a => ⟨Int.le_refl _, fun z hz => (List.not_mem_nil hz).elim, Or.inl rfl⟩
  | y :: t, a => by
    obtain ⟨h1, h2, h3⟩ := foldl_max t (max a y)
    rw [List.foldl_cons]
    refine ⟨by omega, fun z hz => ?_, ?_⟩
    · rcases List.mem_cons.1 hz with rfl | hz
      · omega
      · exact h2 z hz
    · rcases h3 with h3 | h3
      · rw [h3]
        by_cases e : a ≤ y
        · right; rw [Int.max_eq_right e]; exact List.mem_cons_self ..
        · left; omega
      · right; exact List.mem_cons_of_mem _ h3
theorem maxOf_spec {zs : List Int} (h : 0 < zs.length) : (∀ q, q < zs.length → at_ zs q ≤ Go.Lib.maxOf zs) ∧ ∃ q, q < zs.length ∧ Go.Lib.maxOf zs = at_ zs q := by
  unfold Go.Lib.maxOf
  obtain ⟨h1, h2, h3⟩ := foldl_max zs (zs.headD 0)
  refine ⟨fun q hq => h2 _ (at_mem hq), ?_⟩
  have hm : zs.foldl max (zs.headD 0) ∈ zs := by
    rcases h3 with h3 | h3
    · rw [h3]
      cases zs with
      | nil => simp at h
      | cons y t => simp
    · exact h3
  obtain ⟨q, hq, e⟩ := List.getElem_of_mem hm
  exact ⟨q, hq, by rw [← e]; simp [at_, List.getD_eq_getElem?_getD, hq]⟩
theorem tot_le {M : Int} : ∀ {xs : List Int}, (∀ x ∈ xs, x ≤ M) → tot id xs ≤ xs.length * M
  | [], _ => by simp [tot]
  | x :: t, h => by
    have := tot_le (xs := t) (fun y hy => h y (List.mem_cons_of_mem _ hy))
    have := h x (List.mem_cons_self ..)
    rw [tot, List.length_cons, Int.natCast_succ, Int.add_mul]
    simp only [id]
    omega
theorem tot_nonneg : ∀ {xs : List Int}, (∀ x ∈ xs, 0 ≤ x) → 0 ≤ tot id xs
  | [], _ => Int.le_refl _
  | x :: t, h => by
    have := tot_nonneg (xs := t) (fun y hy => h y (List.mem_cons_of_mem _ hy))
    have := h x (List.mem_cons_self ..)
    rw [tot]
    simp only [id]
    omega
theorem tot_take {xs : List Int} (h : ∀ x ∈ xs, 0 ≤ x) (k : Nat) : tot id (xs.take k) ≤ tot id xs := by
  have e := tot_append (xs.take k) (xs.drop k)
  rw [List.take_append_drop] at e
  have := tot_nonneg (xs := xs.drop k) (fun y hy => h y (List.mem_of_mem_drop hy))
  omega
end Go.Proofs.Bins
