/- Bins: things of sizes put into n bins that hold F each; packing and sharing in plain functions, and what they come to. -/
namespace Go.Proofs.Bins
def upd (f : Nat → Int) (b : Nat) (v : Int) : Nat → Int := fun i => if i = b then v else f i
/-- Can the things be put into n bins of F, which hold something already? -/
def can (n : Nat) (F : Int) : List Int → (Nat → Int) → Prop
  | [], _ => True
  | x :: r, ms => ∃ b, b < n ∧ ms b + x ≤ F ∧ can n F r (upd ms b (ms b + x))
theorem can_mono {n m : Nat} {F G : Int} (hn : n ≤ m) (hF : F ≤ G) : ∀ (r : List Int) (ms : Nat → Int), can n F r ms → can m G r ms
  | [], _, _ => trivial
  | x :: r, ms, ⟨b, h1, h2, h3⟩ => ⟨b, by omega, by omega, can_mono hn hF r _ h3⟩
/-- Two bins change places. -/
def swp (i j k : Nat) : Nat := if k = i then j else if k = j then i else k
theorem swp_swp (i j k : Nat) : swp i j (swp i j k) = k := by
  unfold swp
  by_cases h1 : k = i
  · subst h1
    rw [if_pos rfl]
    by_cases h2 : j = k
    · subst h2; rw [if_pos rfl]
    · rw [if_neg h2, if_pos rfl]
  · rw [if_neg h1]
    by_cases h2 : k = j
    · subst h2; rw [if_pos rfl, if_pos rfl]
    · rw [if_neg h2, if_neg h1, if_neg h2]
theorem swp_lt {i j k n : Nat} (hi : i < n) (hj : j < n) (hk : k < n) : swp i j k < n := by
  unfold swp; split
  · exact hj
  · split
    · exact hi
    · exact hk
theorem upd_swp (ms : Nat → Int) (i j b : Nat) (v : Int) : upd (fun k => ms (swp i j k)) (swp i j b) v = fun k => upd ms b v (swp i j k) := by
  funext k
  unfold upd
  by_cases h : k = swp i j b
  · rw [if_pos h, if_pos (by rw [h, swp_swp])]
  · rw [if_neg h, if_neg (fun c => h (by rw [← c, swp_swp]))]
theorem can_swp {n : Nat} {F : Int} {i j : Nat} (hi : i < n) (hj : j < n) : ∀ (r : List Int) (ms : Nat → Int), can n F r ms → can n F r (fun k => ms (swp i j k))
  | [], _, _ => trivial
  | x :: r, ms, ⟨b, h1, h2, h3⟩ => by
    refine ⟨swp i j b, swp_lt hi hj h1, ?_, ?_⟩
    · show ms (swp i j (swp i j b)) + x ≤ F
      rw [swp_swp]; exact h2
    · show can n F r (upd (fun k => ms (swp i j k)) (swp i j b) (ms (swp i j (swp i j b)) + x))
      rw [swp_swp, upd_swp]
      exact can_swp hi hj r _ h3
/-- Bins of the same load are alike. -/
theorem can_same {n : Nat} {F x : Int} {i j : Nat} {r : List Int} {ms : Nat → Int} (hi : i < n) (hj : j < n) (e : ms i = ms j) (h : can n F r (upd ms i (ms i + x))) : can n F r (upd ms j (ms j + x)) := by
  have g := can_swp hi hj r _ h
  have : (fun k => upd ms i (ms i + x) (swp i j k)) = upd ms j (ms j + x) := by
    funext k
    unfold upd swp
    by_cases h1 : k = i
    · subst h1
      rw [if_pos rfl]
      by_cases h2 : k = j
      · subst h2; rw [if_pos rfl]
      · rw [if_neg (fun c => h2 c.symm), if_neg h2, e]
    · rw [if_neg h1]
      by_cases h2 : k = j
      · subst h2; rw [if_pos rfl, if_pos rfl, if_pos rfl, e]
      · rw [if_neg h2, if_neg h1, if_neg h2]
  rw [← this]
  exact g
/-! Packing -/
def fitsP (most : Int) (limit : Nat) : List Int → Nat → (Nat → Int) → Bool
  | [], _, _ => true
  | x :: r, used, ms => (List.range' 0 (min (used + 1) limit)).any fun b => decide (ms b + x ≤ most) && fitsP most limit r (max used (b + 1)) (upd ms b (ms b + x))
theorem fitsP_iff {most : Int} {limit : Nat} : ∀ (r : List Int) (used : Nat) (ms : Nat → Int), used ≤ limit → (∀ b, used ≤ b → ms b = 0) → (fitsP most limit r used ms = true ↔ can limit most r ms)
  | [], _, _, _, _ => by simp [fitsP, can]
  | x :: r, used, ms, hu, hz => by
    have ih := fun b (hb : b < min (used + 1) limit) => fitsP_iff (most := most) (limit := limit) r (max used (b + 1)) (upd ms b (ms b + x)) (by omega) (fun c hc => by
      unfold upd; rw [if_neg (by omega)]; exact hz c (by omega))
    rw [fitsP, List.any_eq_true, can]
    constructor
    · rintro ⟨b, hb, h⟩
      rw [Bool.and_eq_true, decide_eq_true_eq] at h
      have hb2 : b < min (used + 1) limit := by simpa using List.mem_range'.1 hb
      exact ⟨b, by omega, h.1, (ih b hb2).1 h.2⟩
    · rintro ⟨b, h1, h2, h3⟩
      by_cases hb : b < min (used + 1) limit
      · exact ⟨b, by simp; omega, by rw [Bool.and_eq_true, decide_eq_true_eq]; exact ⟨h2, (ih b hb).2 h3⟩⟩
      · have z1 := hz b (by omega)
        have z2 := hz used (by omega)
        refine ⟨used, by simp; omega, ?_⟩
        rw [Bool.and_eq_true, decide_eq_true_eq]
        exact ⟨by omega, (ih used (by omega)).2 (can_same h1 (by omega) (by omega) h3)⟩
/-! Sharing -/
def brk {σ : Type} (stop : Nat → Bool) (g : Nat → σ → σ) : List Nat → σ → σ
  | [], s => s
  | p :: t, s => if stop p then g p s else brk stop g t (g p s)
def searchP (presses : Nat) : List Int → List Int → Int → (Nat → Int) → List Int × Int → List Int × Int
  | [], gs, finish, _, st => if st.2 ≤ finish then st else (gs, finish)
  | x :: r, gs, finish, loads, st => if st.2 ≤ finish then st else
    brk (fun p => loads p == 0) (fun p s => searchP presses r (gs ++ [(p : Int)]) (max finish (loads p + x)) (upd loads p (loads p + x)) s) (List.range' 0 presses) st
/-- The finish never rises, and what it comes to is reached. -/
theorem search_reach {n : Nat} : ∀ (r gs : List Int) (finish : Int) (loads : Nat → Int) (st : List Int × Int), (searchP n r gs finish loads st).2 ≤ st.2 ∧ (searchP n r gs finish loads st = st ∨ (finish ≤ (searchP n r gs finish loads st).2 ∧ can n (searchP n r gs finish loads st).2 r loads))
  | [], gs, finish, loads, st => by
    rw [searchP]
    by_cases h : st.2 ≤ finish
    · rw [if_pos h]; exact ⟨Int.le_refl _, Or.inl rfl⟩
    · rw [if_neg h]
      exact ⟨by show finish ≤ st.2; omega, Or.inr ⟨Int.le_refl _, trivial⟩⟩
  | x :: r, gs, finish, loads, st => by
    rw [searchP]
    by_cases h : st.2 ≤ finish
    · rw [if_pos h]; exact ⟨Int.le_refl _, Or.inl rfl⟩
    · rw [if_neg h]
      have key : ∀ (l : List Nat), (∀ p ∈ l, p < n) → ∀ s : List Int × Int, (brk (fun p => loads p == 0) (fun p s => searchP n r (gs ++ [(p : Int)]) (max finish (loads p + x)) (upd loads p (loads p + x)) s) l s).2 ≤ s.2 ∧ (brk (fun p => loads p == 0) (fun p s => searchP n r (gs ++ [(p : Int)]) (max finish (loads p + x)) (upd loads p (loads p + x)) s) l s = s ∨ (finish ≤ (brk (fun p => loads p == 0) (fun p s => searchP n r (gs ++ [(p : Int)]) (max finish (loads p + x)) (upd loads p (loads p + x)) s) l s).2 ∧ can n (brk (fun p => loads p == 0) (fun p s => searchP n r (gs ++ [(p : Int)]) (max finish (loads p + x)) (upd loads p (loads p + x)) s) l s).2 (x :: r) loads)) := by
        intro l
        induction l with
        | nil => intro _ s; exact ⟨Int.le_refl _, Or.inl rfl⟩
        | cons p t ih =>
          intro hp s
          have one : ∀ s : List Int × Int, (searchP n r (gs ++ [(p : Int)]) (max finish (loads p + x)) (upd loads p (loads p + x)) s).2 ≤ s.2 ∧ (searchP n r (gs ++ [(p : Int)]) (max finish (loads p + x)) (upd loads p (loads p + x)) s = s ∨ (finish ≤ (searchP n r (gs ++ [(p : Int)]) (max finish (loads p + x)) (upd loads p (loads p + x)) s).2 ∧ can n (searchP n r (gs ++ [(p : Int)]) (max finish (loads p + x)) (upd loads p (loads p + x)) s).2 (x :: r) loads)) := fun s => by
            obtain ⟨a, b⟩ := search_reach (n := n) r (gs ++ [(p : Int)]) (max finish (loads p + x)) (upd loads p (loads p + x)) s
            refine ⟨a, ?_⟩
            rcases b with b | ⟨b1, b2⟩
            · exact Or.inl b
            · exact Or.inr ⟨by omega, p, hp p (List.mem_cons_self ..), by omega, b2⟩
          rw [brk]
          generalize searchP n r (gs ++ [(p : Int)]) (max finish (loads p + x)) (upd loads p (loads p + x)) = S at *
          obtain ⟨a, b⟩ := one s
          by_cases hz : (loads p == 0) = true
          · rw [if_pos hz]; exact ⟨a, b⟩
          · rw [if_neg hz]
            obtain ⟨c, d⟩ := ih (fun q hq => hp q (List.mem_cons_of_mem _ hq)) (S s)
            refine ⟨by omega, ?_⟩
            rcases d with d | d
            · rw [d]; exact b
            · exact Or.inr d
      exact key _ (fun p hp => by simpa using List.mem_range'.1 hp) st
/-- What can be reached is not missed. -/
theorem search_least {n : Nat} {F : Int} : ∀ (r gs : List Int) (finish : Int) (loads : Nat → Int) (st : List Int × Int), (∀ x ∈ r, 1 ≤ x) → (∀ p, 0 ≤ loads p) → (∀ p q, p ≤ q → loads p = 0 → loads q = 0) → finish ≤ F → can n F r loads → (searchP n r gs finish loads st).2 ≤ F
  | [], gs, finish, loads, st, _, _, _, hF, _ => by
    rw [searchP]
    by_cases h : st.2 ≤ finish
    · rw [if_pos h]; omega
    · rw [if_neg h]; exact hF
  | x :: r, gs, finish, loads, st, hx, h0, hz, hF, hc => by
    rw [searchP]
    by_cases h : st.2 ≤ finish
    · rw [if_pos h]; omega
    · rw [if_neg h]
      have x1 := hx x (List.mem_cons_self ..)
      have one : ∀ p : Nat, (∀ q, q < p → loads q ≠ 0) → loads p + x ≤ F → can n F r (upd loads p (loads p + x)) → ∀ s, (searchP n r (gs ++ [(p : Int)]) (max finish (loads p + x)) (upd loads p (loads p + x)) s).2 ≤ F := fun p hp h1 h2 s => by
        refine search_least r _ _ _ s (fun y hy => hx y (List.mem_cons_of_mem _ hy)) (fun q => ?_) (fun a b hab ha => ?_) (by omega) h2
        · unfold upd; split
          · have := h0 p; omega
          · exact h0 q
        · have pp := h0 p
          unfold upd at ha ⊢
          by_cases e : a = p
          · rw [if_pos e] at ha; omega
          · rw [if_neg e] at ha
            have := hz a b hab ha
            by_cases e2 : b = p
            · exact absurd ha (hp a (by omega))
            · rw [if_neg e2]; exact this
      have down : ∀ (p : Nat) s, (searchP n r (gs ++ [(p : Int)]) (max finish (loads p + x)) (upd loads p (loads p + x)) s).2 ≤ s.2 := fun p s => (search_reach (n := n) r _ _ _ s).1
      obtain ⟨b, hb, h1, h2⟩ := hc
      have later : ∀ (l : List Nat) (s : List Int × Int), s.2 ≤ F → (brk (fun p => loads p == 0) (fun p s => searchP n r (gs ++ [(p : Int)]) (max finish (loads p + x)) (upd loads p (loads p + x)) s) l s).2 ≤ F := by
        intro l
        induction l with
        | nil => intro s hs; exact hs
        | cons p t ih =>
          intro s hs
          rw [brk]
          have := down p s
          split
          · omega
          · exact ih _ (by omega)
      have key : ∀ (c p : Nat) (s : List Int × Int), n - p = c → p ≤ b → (∀ q, q < p → loads q ≠ 0) → (brk (fun p => loads p == 0) (fun p s => searchP n r (gs ++ [(p : Int)]) (max finish (loads p + x)) (upd loads p (loads p + x)) s) (List.range' p (n - p)) s).2 ≤ F := by
        intro c
        induction c with
        | zero => intro p s hc hp; omega
        | succ c ih =>
          intro p s hc hp hq
          rw [show n - p = (n - (p + 1)) + 1 by omega, List.range'_succ, brk]
          by_cases z : (loads p == 0) = true
          · rw [if_pos z]
            have z0 : loads p = 0 := by simpa using z
            have zb := hz p b hp z0
            exact one p hq (by omega) (can_same hb (by omega) (by omega) h2) s
          · rw [if_neg z]
            by_cases e : p = b
            · subst e
              exact later _ _ (one p hq h1 h2 s)
            · exact ih (p + 1) _ (by omega) (by omega) (fun q hq2 => by
                by_cases e2 : q = p
                · subst e2; simpa using z
                · exact hq q (by omega))
      exact key n 0 st (by omega) (by omega) (fun q h => by omega)
/-- The least finish: started above one that is reached. -/
theorem search_spec {n : Nat} {l : List Int} {h : Int} {b0 : List Int} (hx : ∀ x ∈ l, 1 ≤ x) (h0 : 0 ≤ h) (hc : can n h l (fun _ => 0)) :
    can n (searchP n l [] 0 (fun _ => 0) (b0, h + 1)).2 l (fun _ => 0) ∧ 0 ≤ (searchP n l [] 0 (fun _ => 0) (b0, h + 1)).2 ∧ ∀ F, 0 ≤ F → can n F l (fun _ => 0) → (searchP n l [] 0 (fun _ => 0) (b0, h + 1)).2 ≤ F := by
  have L := fun F (hF : 0 ≤ F) (c : can n F l (fun _ => 0)) => search_least (n := n) (F := F) l [] 0 (fun _ => 0) (b0, h + 1) hx (fun _ => Int.le_refl _) (fun _ _ _ _ => rfl) hF c
  obtain ⟨a, b⟩ := search_reach (n := n) l [] 0 (fun _ => 0) (b0, h + 1)
  have l1 := L h h0 hc
  rcases b with b | ⟨b1, b2⟩
  · rw [b] at l1
    have : (b0, h + 1).2 = h + 1 := rfl
    omega
  · exact ⟨b2, b1, L⟩
/-! The lower bound -/
def sumTo (f : Nat → Int) : Nat → Int
  | 0 => 0
  | n + 1 => sumTo f n + f n
def tot (w : Int → Int) : List Int → Int
  | [] => 0
  | x :: t => w x + tot w t
theorem sumTo_le {f : Nat → Int} {W : Int} : ∀ n : Nat, (∀ b, b < n → f b ≤ W) → sumTo f n ≤ n * W
  | 0, _ => by simp [sumTo]
  | n + 1, h => by
    have := sumTo_le n (fun b hb => h b (by omega))
    have := h n (by omega)
    rw [sumTo, Int.natCast_succ, Int.add_mul]
    omega
theorem sumTo_set (f g : Nat → Int) (b : Nat) (v : Int) (hg : ∀ i, g i = if i = b then f i + v else f i) : ∀ n : Nat, sumTo g n = sumTo f n + if b < n then v else 0
  | 0 => by simp [sumTo]
  | n + 1 => by
    rw [sumTo, sumTo, sumTo_set f g b v hg n, hg n]
    by_cases h : n = b
    · subst h; rw [if_pos rfl, if_neg (by omega), if_pos (by omega)]; omega
    · rw [if_neg h]
      by_cases h2 : b < n
      · rw [if_pos h2, if_pos (by omega)]; omega
      · rw [if_neg h2, if_neg (by omega)]; omega
/-- What lies in the bins in the end. -/
theorem can_held {n : Nat} {F : Int} : ∀ (r : List Int) (ms : Nat → Int) (c : Nat → List Int), (∀ b, ms b = tot id (c b)) → (∀ b, b < n → tot id (c b) ≤ F) → (∀ b, ∀ y ∈ c b, 1 ≤ y) → (∀ y ∈ r, 1 ≤ y) → can n F r ms →
    ∃ c' : Nat → List Int, (∀ b, b < n → tot id (c' b) ≤ F) ∧ (∀ b, ∀ y ∈ c' b, 1 ≤ y) ∧ ∀ w, sumTo (fun b => tot w (c' b)) n = sumTo (fun b => tot w (c b)) n + tot w r
  | [], ms, c, _, h2, h3, _, _ => ⟨c, h2, h3, fun w => by simp [tot]⟩
  | x :: r, ms, c, h1, h2, h3, h4, ⟨b, hb, hm, hc⟩ => by
    obtain ⟨c', g1, g2, g3⟩ := can_held (n := n) (F := F) r (upd ms b (ms b + x)) (fun i => if i = b then x :: c i else c i) (fun i => by
        show (if i = b then ms b + x else ms i) = tot id (if i = b then x :: c i else c i)
        by_cases e : i = b
        · subst e; rw [if_pos rfl, if_pos rfl, tot, h1 i]; simp only [id]; omega
        · rw [if_neg e, if_neg e, h1 i]) (fun i hi => by
        show tot id (if i = b then x :: c i else c i) ≤ F
        by_cases e : i = b
        · subst e; rw [if_pos rfl, tot]; have := h1 i; simp only [id]; omega
        · rw [if_neg e]; exact h2 i hi) (fun i y hy => by
        by_cases e : i = b
        · subst e
          have hy2 : y ∈ (if i = i then x :: c i else c i) := hy
          rw [if_pos rfl] at hy2
          rcases List.mem_cons.1 hy2 with rfl | hy2
          · exact h4 _ (List.mem_cons_self ..)
          · exact h3 i y hy2
        · have hy2 : y ∈ (if i = b then x :: c i else c i) := hy
          rw [if_neg e] at hy2
          exact h3 i y hy2) (fun y hy => h4 y (List.mem_cons_of_mem _ hy)) hc
    refine ⟨c', g1, g2, fun w => ?_⟩
    rw [g3 w, sumTo_set (fun b => tot w (c b)) _ b (w x) (fun i => ?_) n, if_pos hb, tot]
    · omega
    · show tot w (if i = b then x :: c i else c i) = if i = b then tot w (c i) + w x else tot w (c i)
      by_cases e : i = b
      · rw [if_pos e, if_pos e, tot]; omega
      · rw [if_neg e, if_neg e]
theorem can_weight {n : Nat} {F : Int} {l : List Int} (hx : ∀ x ∈ l, 1 ≤ x) (hF : 0 ≤ F) (h : can n F l (fun _ => 0)) (w : Int → Int) (W : Int) (hw : ∀ t : List Int, (∀ y ∈ t, 1 ≤ y) → tot id t ≤ F → tot w t ≤ W) : tot w l ≤ n * W := by
  obtain ⟨c', g1, g2, g3⟩ := can_held l (fun _ => 0) (fun _ => []) (fun _ => rfl) (fun _ _ => hF) (fun _ y hy => by cases hy) hx h
  have e := g3 w
  have z : ∀ m : Nat, sumTo (fun _ => tot w []) m = 0 := by
    intro m
    induction m with
    | zero => rfl
    | succ m ih => rw [sumTo, ih]; rfl
  rw [z n] at e
  have := sumTo_le (f := fun b => tot w (c' b)) n (fun b hb => hw _ (g2 b) (g1 b hb))
  omega
theorem mem_tot : ∀ {t : List Int}, (∀ y ∈ t, 1 ≤ y) → ∀ y ∈ t, y ≤ tot id t
  | x :: t, h, y, hy => by
    have x1 := h x (List.mem_cons_self ..)
    have ht : ∀ y ∈ t, 1 ≤ y := fun y hy => h y (List.mem_cons_of_mem _ hy)
    have t0 : 0 ≤ tot id t := by
      cases t with
      | nil => exact Int.le_refl _
      | cons z s => have := mem_tot ht z (List.mem_cons_self ..); have := ht z (List.mem_cons_self ..); omega
    rw [tot]
    rcases List.mem_cons.1 hy with rfl | hy
    · simp only [id]; omega
    · have := mem_tot ht y hy; simp only [id]; omega
/-- Of the large things one lies in a box. -/
def wA (most m : Int) : Int := if most < 2 * m then 1 else 0
theorem wA_le {most : Int} : ∀ t : List Int, (∀ y ∈ t, 1 ≤ y) → tot id t ≤ most → tot (wA most) t ≤ 1 ∧ ((∀ y ∈ t, ¬ most < 2 * y) → tot (wA most) t = 0)
  | [], _, _ => ⟨by simp [tot], fun _ => rfl⟩
  | x :: t, h, hs => by
    have x1 := h x (List.mem_cons_self ..)
    have ht : ∀ y ∈ t, 1 ≤ y := fun y hy => h y (List.mem_cons_of_mem _ hy)
    rw [tot] at hs
    simp only [id] at hs
    obtain ⟨a, b⟩ := wA_le (most := most) t ht (by omega)
    refine ⟨?_, fun g => ?_⟩
    · rw [tot]
      unfold wA
      by_cases c : most < 2 * x
      · rw [if_pos c]
        have := b (fun y hy => by have := mem_tot ht y hy; omega)
        unfold wA at this
        omega
      · rw [if_neg c]
        unfold wA at a
        omega
    · rw [tot, b (fun y hy => g y (List.mem_cons_of_mem _ hy))]
      unfold wA
      rw [if_neg (g x (List.mem_cons_self ..))]
      rfl
/-- The weights at a threshold a. -/
def wB (most a m : Int) : Int := if most - a < m then most else if most < 2 * m then m else if a ≤ m then m else 0
theorem wB_le {most a : Int} (ha : 2 * a ≤ most) (ha0 : 0 ≤ a) : ∀ t : List Int, (∀ y ∈ t, 1 ≤ y) → tot id t ≤ most → tot (wB most a) t ≤ most ∧ ((∀ y ∈ t, ¬ most - a < y) → tot (wB most a) t ≤ tot id t) ∧ ((∀ y ∈ t, y < a) → tot (wB most a) t = 0)
  | [], _, h => ⟨h, fun _ => Int.le_refl _, fun _ => rfl⟩
  | x :: t, h, hs => by
    have x1 := h x (List.mem_cons_self ..)
    have ht : ∀ y ∈ t, 1 ≤ y := fun y hy => h y (List.mem_cons_of_mem _ hy)
    rw [tot] at hs
    simp only [id] at hs
    obtain ⟨p, q, r⟩ := wB_le (most := most) (a := a) ha ha0 t ht (by omega)
    refine ⟨?_, fun g => ?_, fun g => ?_⟩
    · rw [tot]
      by_cases c : most - a < x
      · have := r (fun y hy => by have := mem_tot ht y hy; omega)
        have : wB most a x = most := by unfold wB; rw [if_pos c]
        omega
      · by_cases d : ∃ y ∈ t, most - a < y
        · obtain ⟨y, hy, d⟩ := d
          have := mem_tot ht y hy
          have : wB most a x = 0 := by unfold wB; rw [if_neg c, if_neg (by omega), if_neg (by omega)]
          omega
        · have := q (fun y hy c2 => d ⟨y, hy, c2⟩)
          have : wB most a x ≤ x := by unfold wB; rw [if_neg c]; split; omega; split <;> omega
          omega
    · rw [tot, tot]
      have := q (fun y hy => g y (List.mem_cons_of_mem _ hy))
      have c := g x (List.mem_cons_self ..)
      have : wB most a x ≤ x := by unfold wB; rw [if_neg c]; split; omega; split <;> omega
      simp only [id]
      omega
    · rw [tot, r (fun y hy => g y (List.mem_cons_of_mem _ hy))]
      have c := g x (List.mem_cons_self ..)
      unfold wB
      rw [if_neg (by omega), if_neg (by omega), if_neg (by omega)]
      rfl
/-- The four sums at a threshold, as they are counted. -/
def four (most a : Int) : List Int → Int × Int × Int × Int → Int × Int × Int × Int
  | [], v => v
  | m :: t, (l, d, h, s) => four most a t (if most - a < m then (l + 1, d, h, s) else if most < 2 * m then (l, d + 1, h + m, s) else if a ≤ m then (l, d, h, s + m) else (l, d, h, s))
theorem four_eq {most a : Int} : ∀ (t : List Int) (l d h s : Int), ∃ l' d' h' s', four most a t (l, d, h, s) = (l', d', h', s') ∧ (l' - l) * most + (h' - h) + (s' - s) = tot (wB most a) t ∧ (2 * a ≤ most → l' - l + (d' - d) ≤ tot (wA most) t)
  | [], l, d, h, s => ⟨l, d, h, s, rfl, by rw [show l - l = 0 by omega, show h - h = 0 by omega, show s - s = 0 by omega]; simp [tot], fun _ => by show l - l + (d - d) ≤ 0; omega⟩
  | m :: t, l, d, h, s => by
    rw [four, tot, tot]
    unfold wB wA
    by_cases c1 : most - a < m
    · rw [if_pos c1, if_pos c1]
      obtain ⟨l', d', h', s', e, g1, g2⟩ := four_eq (most := most) (a := a) t (l + 1) d h s
      refine ⟨l', d', h', s', e, ?_, fun ha => ?_⟩
      · unfold wB at g1
        have : (l' - l) * most = (l' - (l + 1)) * most + most := by rw [show l' - l = (l' - (l + 1)) + 1 by omega, Int.add_mul]; omega
        omega
      · have := g2 ha
        unfold wA at this
        rw [if_pos (by omega)]; omega
    · rw [if_neg c1, if_neg c1]
      by_cases c2 : most < 2 * m
      · rw [if_pos c2, if_pos c2, if_pos c2]
        obtain ⟨l', d', h', s', e, g1, g2⟩ := four_eq (most := most) (a := a) t l (d + 1) (h + m) s
        refine ⟨l', d', h', s', e, ?_, fun ha => ?_⟩
        · unfold wB at g1; omega
        · have := g2 ha
          unfold wA at this
          omega
      · rw [if_neg c2, if_neg c2, if_neg c2]
        by_cases c3 : a ≤ m
        · rw [if_pos c3, if_pos c3]
          obtain ⟨l', d', h', s', e, g1, g2⟩ := four_eq (most := most) (a := a) t l d h (s + m)
          refine ⟨l', d', h', s', e, ?_, fun ha => ?_⟩
          · unfold wB at g1; omega
          · have := g2 ha
            unfold wA at this
            omega
        · rw [if_neg c3, if_neg c3]
          obtain ⟨l', d', h', s', e, g1, g2⟩ := four_eq (most := most) (a := a) t l d h s
          refine ⟨l', d', h', s', e, ?_, fun ha => ?_⟩
          · unfold wB at g1; omega
          · have := g2 ha
            unfold wA at this
            omega
/-- The bound at one threshold. -/
def boundAt (l : List Int) (most a : Int) : Int :=
  let v := four most a l (0, 0, 0, 0)
  v.1 + v.2.1 + (if 0 < v.2.2.2 - (v.2.1 * most - v.2.2.1) then (v.2.2.2 - (v.2.1 * most - v.2.2.1) + most - 1) / most else 0)
theorem boundAt_le {n : Nat} {most a : Int} {l : List Int} (hx : ∀ x ∈ l, 1 ≤ x) (hm : 1 ≤ most) (ha : 2 * a ≤ most) (ha0 : 0 ≤ a) (h : can n most l (fun _ => 0)) : boundAt l most a ≤ n := by
  have A := can_weight hx (by omega) h (wA most) 1 (fun t ht hs => (wA_le t ht hs).1)
  have B := can_weight hx (by omega) h (wB most a) most (fun t ht hs => (wB_le ha ha0 t ht hs).1)
  obtain ⟨l', d', h', s', e, g1, g2⟩ := four_eq (most := most) (a := a) l 0 0 0 0
  have g2 := g2 ha
  unfold boundAt
  simp only [e]
  by_cases c : 0 < s' - (d' * most - h')
  · rw [if_pos c]
    have g : (s' - (d' * most - h') + most - 1) / most = (s' + h' + most - 1) / most - d' := by
      rw [show s' - (d' * most - h') + most - 1 = (s' + h' + most - 1) + (-d') * most by rw [Int.neg_mul]; omega, Int.add_mul_ediv_right _ _ (by omega)]
      omega
    have k : (s' + h' + most - 1) / most < (n : Int) - l' + 1 := by
      apply Int.ediv_lt_of_lt_mul (by omega)
      have : ((n : Int) - l' + 1) * most = n * most - l' * most + most := by rw [Int.add_mul, Int.sub_mul]; omega
      have : (l' - 0) * most = l' * most := by rw [Int.sub_zero]
      omega
    omega
  · rw [if_neg c]
    omega
def boundP (l : List Int) (most : Int) : List Int → Int → Int
  | [], best => best
  | a :: t, best => boundP l most t (if 2 * a > most then best else max best (boundAt l most a))
theorem boundP_le {n : Nat} {most : Int} {l : List Int} (hx : ∀ x ∈ l, 1 ≤ x) (hm : 1 ≤ most) (h : can n most l (fun _ => 0)) : ∀ (t : List Int) (best : Int), (∀ a ∈ t, 0 ≤ a) → best ≤ n → boundP l most t best ≤ n
  | [], best, _, hb => hb
  | a :: t, best, ht, hb => by
    rw [boundP]
    refine boundP_le hx hm h t _ (fun y hy => ht y (List.mem_cons_of_mem _ hy)) ?_
    split
    · exact hb
    · have := boundAt_le (a := a) hx hm (by omega) (ht a (List.mem_cons_self ..)) h
      omega
theorem boundP_ge {l : List Int} {most : Int} : ∀ (t : List Int) (best : Int), best ≤ boundP l most t best
  | [], best => Int.le_refl _
  | a :: t, best => by
    rw [boundP]
    refine Int.le_trans ?_ (boundP_ge t _)
    split <;> omega
/-- Each thing in a box of its own. -/
theorem can_own {F : Int} : ∀ (r : List Int) (k : Nat) (ms : Nat → Int), (∀ b, k ≤ b → ms b = 0) → (∀ x ∈ r, x ≤ F) → can (k + r.length) F r ms
  | [], _, _, _, _ => trivial
  | x :: r, k, ms, h, hx => by
    refine ⟨k, by simp, ?_, ?_⟩
    · have := hx x (List.mem_cons_self ..); rw [h k (Nat.le_refl _)]; omega
    · have := can_own (F := F) r (k + 1) (upd ms k (ms k + x)) (fun b hb => by unfold upd; rw [if_neg (by omega)]; exact h b (by omega)) (fun y hy => hx y (List.mem_cons_of_mem _ hy))
      rw [List.length_cons, show k + (r.length + 1) = k + 1 + r.length by omega]
      exact this
theorem can_fit {n : Nat} {F : Int} : ∀ (r : List Int) (ms : Nat → Int), (∀ b, 0 ≤ ms b) → (∀ x ∈ r, 1 ≤ x) → can n F r ms → ∀ x ∈ r, x ≤ F
  | y :: r, ms, h, hx, ⟨b, h1, h2, h3⟩, x, hm => by
    have hb := h b
    have y1 := hx y (List.mem_cons_self ..)
    rcases List.mem_cons.1 hm with rfl | hm
    · omega
    · exact can_fit r _ (fun c => by unfold upd; split; omega; exact h c) (fun z hz => hx z (List.mem_cons_of_mem _ hz)) h3 x hm

set_option maxRecDepth 100000 in
theorem worked_fin : ∀ i : Fin 7, searchP 2 [3, 3, 2, 2, 2] [] 0 (fun _ => 0) ([], (i.val : Int) + 7) = ([0, 0, 1, 1, 1], 6) := by decide +kernel
theorem worked_eq {h : Int} (h6 : 6 ≤ h) (h12 : h ≤ 12) : searchP 2 [3, 3, 2, 2, 2] [] 0 (fun _ => 0) ([], h + 1) = ([0, 0, 1, 1, 1], 6) := by
  have := worked_fin ⟨(h - 6).toNat, by omega⟩
  rw [show (((h - 6).toNat : Nat) : Int) + 7 = h + 1 by omega] at this
  exact this
end Go.Proofs.Bins
