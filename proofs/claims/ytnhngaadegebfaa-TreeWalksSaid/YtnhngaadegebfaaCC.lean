/- The same for the map of ints by strings, and alive. -/
import Derived.Test.YtnhngaadegebfaaProg
import Derived.Test.YtnhngaadegebfaaBase
import Derived.Deep.QuietTactic
import Derived.BigQuiet
import Derived.Deep.RegionHeld3
import Derived.KernelRfl
import Derived.Deep.LoopGhost
import Derived.WalkSmall

/- The tree's small functions (IS): len, weight, light, turned, over. -/
namespace Go.Proofs.MT.IS
open Go.RowKit

abbrev ek : Int → Value := .int .i64
abbrev ev : ByteArray → Value := .string
abbrev Tr (n₀ : Nat) (w : World) (p : Option Addr) (t : T Int ByteArray) : Prop := IsTree ek ev 145 n₀ w p t

theorem len_nil (w : World) : Calls Try.prog 89 #[.pointer none] w fun e w' => e = .returned (.int .i64 0) ∧ w = w' := by
  go_enter Try.func89, Try.ntmps89
  go_wp2
  go_ret
  simp

theorem len_node (b : Nat) (n : Int) (w : World) (h : w.cell? ⟨b, 4, none⟩ = some (.int .i64 n)) :
    Calls Try.prog 89 #[.pointer (some ⟨b, 0, none⟩)] w fun e w' => e = .returned (.int .i64 n) ∧ w = w' := by
  go_enter Try.func89, Try.ntmps89
  go_wp2
  go_ret
  simp

theorem len_any (T : T Int ByteArray) (p : Option Addr) (n₀ : Nat) (w : World) (h : Tr n₀ w p T) :
    Calls Try.prog 89 #[.pointer p] w fun e w' => e = .returned (.int .i64 T.size) ∧ w = w' := by
  cases T with
  | nil => obtain rfl : p = none := h; exact len_nil w
  | node l k v r => obtain ⟨b, pl, pr, rfl, hb, h0, h1, h2, h3, h4, hl, hr⟩ := h; exact len_node b _ w h4.1

theorem cell_later {w : World} {a : Addr} {v : Value} (ha : a.block < w.heap.size) (h : w.cell? a = some v) : ∀ w', Below w.heap.size w w' → w'.cell? a = some v := fun _ hb => (hb.cell ha).trans h

theorem later_two {P : World → Prop} {w w1 : World} (f : ∀ w', Below w.heap.size w w' → P w') (h : Below w.heap.size w w1) : ∀ w', Below w1.heap.size w1 w' → P w' := fun w' h' => f w' (h.trans (h'.mono h.size))

/-- What a call that makes a tree leaves: the tree, and all that was there. -/
def Makes (T : T Int ByteArray) (w : World) (e : Ending) (w' : World) : Prop :=
  ∃ p, e = .returned (.pointer p) ∧ Tr w'.heap.size w' p T ∧ Below w.heap.size w w'

theorem node_new (w : World) (A B : T Int ByteArray) (k : Int) (v : ByteArray) (p q : Option Addr) (hA : Tr w.heap.size w p A) (hB : Tr w.heap.size w q B) :
    Tr (w.alloc (.cells #[ek k, ev v, .pointer p, .pointer q, .int .i64 ((A.size : Int) + B.size + 1)] 145)).heap.size
      (w.alloc (.cells #[ek k, ev v, .pointer p, .pointer q, .int .i64 ((A.size : Int) + B.size + 1)] 145)) (some ⟨w.heap.size, 0, none⟩) (.node A k v B) := by
  have hb : Below w.heap.size w (w.alloc (.cells #[ek k, ev v, .pointer p, .pointer q, .int .i64 ((A.size : Int) + B.size + 1)] 145)) := (Below.refl _ _).alloc (Nat.le_refl _) _
  exact ⟨w.heap.size, p, q, rfl, by simp, cell_new _ _ _ _ _ _ rfl, cell_new _ _ _ _ _ _ rfl, cell_new _ _ _ _ _ _ rfl, cell_new _ _ _ _ _ _ rfl, ⟨cell_new _ _ _ _ _ _ rfl, tag_new _ _ _ _⟩, hA.later hb, hB.later hb⟩

theorem over_any (A B : T Int ByteArray) (k : Int) (v : ByteArray) (p q : Option Addr) (w : World) (hA : Tr w.heap.size w p A) (hB : Tr w.heap.size w q B) (sA : A.size ≤ 4398046511104) (sB : B.size ≤ 4398046511104) :
    Calls Try.prog 115 #[.pointer p, .int .i64 k, .string v, .pointer q] w (Makes (.node A k v B) w) := by
  go_enter Try.func115, Try.ntmps115
  go_wp2_with fail
  refine (len_any A _ _ _ hA).mono ?_
  rintro e w' ⟨rfl, rfl⟩
  go_wp2_with fail
  refine (len_any B _ _ _ hB).mono ?_
  rintro e w' ⟨rfl, rfl⟩
  go_wp2
  go_ret
  refine ⟨_, rfl, ?_, (Below.refl _ _).alloc (Nat.le_refl _) _⟩
  exact node_new w A B k v p q hA hB
end Go.Proofs.MT.IS

/- The tree's functions union, intersect, subtract, depth, told (IS). -/
namespace Go.Proofs.MT.IS
open Go.RowKit

set_option maxRecDepth 100000 in
set_option maxHeartbeats 2000000 in
theorem told_nil (w : World) : Calls Try.prog 88 #[.pointer none] w fun e w' => e = .returned (.tuple #[.int .i64 0, .string ⟨#[]⟩, .bool false]) ∧ w = w' := by
  go_enter Try.func88, Try.ntmps88
  go_wp2
  go_ret3
  exact ⟨rfl, rfl⟩

set_option maxRecDepth 100000 in
set_option maxHeartbeats 2000000 in
theorem told_node (l : T Int ByteArray) (k : Int) (v : ByteArray) (r : T Int ByteArray) (p : Option Addr) (n₀ : Nat) (w : World) (h : Tr n₀ w p (.node l k v r)) :
    Calls Try.prog 88 #[.pointer p] w fun e w' => e = .returned (.tuple #[ek k, ev v, .bool true]) ∧ ∃ n, w' = w.drewN n := by
  obtain ⟨b, pl, pr, rfl, hb, c0, c1, c2, c3, c4, hl, hr⟩ := h
  clear c2 c3 c4 hl hr
  go_enter Try.func88, Try.ntmps88
  go_wp2_with fail
  go_quiet (fail)
  go_wp2
  go_ret3
  exact ⟨rfl, _, rfl⟩

theorem depth_le_size (t : T Int ByteArray) : t.depth ≤ t.size := by
  induction t with
  | nil => simp [T.depth]
  | node l k v r ihl ihr => simp only [T.depth, T.size]; omega

set_option maxRecDepth 100000 in
set_option maxHeartbeats 2000000 in
theorem depth_any (t : T Int ByteArray) : ∀ (p : Option Addr) (w : World), Tr w.heap.size w p t → t.size ≤ 1099511627776 → Calls Try.prog 90 #[.pointer p] w fun e w' => e = .returned (.int .i64 (T.depth t)) ∧ Below w.heap.size w w' := by
  induction t with
  | nil =>
    intro p w ht _
    obtain rfl : p = none := ht
    go_enter Try.func90, Try.ntmps90
    go_wp2
    go_ret
    exact ⟨rfl, Below.refl _ _⟩
  | node l k v r ihl ihr =>
  intro p w ht hs
  have IHl : Hid (∀ (p : Option Addr) (w : World), Tr w.heap.size w p l → l.size ≤ 1099511627776 → Calls Try.prog 90 #[.pointer p] w fun e w' => e = .returned (.int .i64 (T.depth l)) ∧ Below w.heap.size w w') := ihl
  have IHr : Hid (∀ (p : Option Addr) (w : World), Tr w.heap.size w p r → r.size ≤ 1099511627776 → Calls Try.prog 90 #[.pointer p] w fun e w' => e = .returned (.int .i64 (T.depth r)) ∧ Below w.heap.size w w') := ihr
  clear ihl ihr
  obtain ⟨b, pl, pr, rfl, hb, c0, c1, c2, c3, c4, hl, hr⟩ := ht
  have f2 := cell_later (a := ⟨b, 2, none⟩) hb c2
  have f3 := cell_later (a := ⟨b, 3, none⟩) hb c3
  have hzl := depth_le_size l
  have hzr := depth_le_size r
  simp only [T.size] at hs
  clear c0 c1 c2 c3 c4
  go_enter Try.func90, Try.ntmps90
  go_wp2_with fail
  go_region_held3 (fun w' => Below w.heap.size w w') (repeat (first | assumption | exact Below.refl _ _ | apply Below.drew)) (first
          | (go_at_call_of 90 pl; refine (IHl.out _ _ (hl.later (by assumption)) (by omega)).mono ?_; rintro e w2 ⟨rfl, hb2⟩; have hk2 : Below w.heap.size w w2 := Below.trans (by assumption) (hb2.mono (Below.size (by assumption))))
          | (go_at_call_of 90 pr; refine (IHr.out _ _ (hr.later (by assumption)) (by omega)).mono ?_; rintro e w3 ⟨rfl, hb3⟩; have hk3 : Below w.heap.size w w3 := Below.trans hk2 (hb3.mono hk2.size)))
  all_goals go_wp2
  all_goals go_ret
  all_goals exact ⟨ret_int (by rw [IntKind.wrap_i64]; simp only [T.depth]; omega), hk3⟩
end Go.Proofs.MT.IS

/- The map's methods (IS), first part. -/
namespace Go.Proofs.MT.IS
open Go.RowKit

/-- What a call that makes a map leaves. -/
def MakesM (T : T Int ByteArray) (w : World) (e : Ending) (w' : World) : Prop :=
  ∃ p, e = .returned (.agg #[.pointer p]) ∧ Tr w'.heap.size w' p T ∧ Below w.heap.size w w'

/-- The three results that tell of a node. -/
def toldV : T Int ByteArray → Value
  | .nil => .tuple #[.int .i64 0, .string ⟨#[]⟩, .bool false]
  | .node _ k v _ => .tuple #[.int .i64 k, .string v, .bool true]

theorem told_any (t : T Int ByteArray) (n₀ : Nat) (p : Option Addr) (w : World) (h : Tr n₀ w p t) :
    Calls Try.prog 88 #[.pointer p] w fun e w' => e = .returned (toldV t) ∧ ∃ n, w' = w.drewN n := by
  cases t with
  | nil =>
    obtain rfl : p = none := h
    exact (told_nil w).mono fun e w' ⟨h1, h2⟩ => ⟨h1, 0, h2.symm⟩
  | node l k v r => exact told_node l k v r p n₀ w h

theorem Len_any (t : T Int ByteArray) (p : Option Addr) (w : World) (h : Tr w.heap.size w p t) :
    Calls Try.prog 50 #[.agg #[.pointer p]] w fun e w' => e = .returned (.int .i64 t.size) ∧ Below w.heap.size w w' := by
  go_enter Try.func50, Try.ntmps50
  go_wp2_with fail
  have hb := (Below.refl w.heap.size w).alloc (Nat.le_refl _) (.cells #[.pointer p] 97)
  refine (len_any t _ _ _ (h.later hb)).mono ?_
  rintro e w' ⟨rfl, rfl⟩
  go_wp2
  go_ret
  exact ⟨rfl, hb⟩

theorem Depth_any (t : T Int ByteArray) (p : Option Addr) (w : World) (h : Tr w.heap.size w p t) (hs : t.size ≤ 1099511627776) :
    Calls Try.prog 52 #[.agg #[.pointer p]] w fun e w' => e = .returned (.int .i64 t.depth) ∧ Below w.heap.size w w' := by
  go_enter Try.func52, Try.ntmps52
  go_wp2_with fail
  have hb := (Below.refl w.heap.size w).alloc (Nat.le_refl _) (.cells #[.pointer p] 97)
  refine (depth_any t _ _ (h.later hb) hs).mono ?_
  rintro e w' ⟨rfl, hb1⟩
  go_wp2
  go_ret
  exact ⟨rfl, hb.trans (hb1.mono hb.size)⟩
end Go.Proofs.MT.IS

/- The map's methods (IS), second part. -/
namespace Go.Proofs.MT.IS
open Go.RowKit

set_option maxRecDepth 100000 in
set_option maxHeartbeats 2000000 in
theorem Rank_any (t : T Int ByteArray) (k : Int) (p : Option Addr) (w : World) (h : Tr w.heap.size w p t) (hs : t.size ≤ 1099511627776) :
    Calls Try.prog 51 #[.agg #[.pointer p], .int .i64 k] w fun e w' => e = .returned (.int .i64 (t.rank k)) ∧ Below w.heap.size w w' := by
  have hb := (Below.refl w.heap.size w).alloc (Nat.le_refl _) (.cells #[.pointer p] 97)
  have h' : Tr w.heap.size (w.alloc (.cells #[.pointer p] 97)) p t := h.below hb
  go_enter Try.func51, Try.ntmps51
  go_wp2_with fail
  go_loopg [5, 6] t.size (fun n r5 p6 wr => w.alloc (.cells #[.pointer p] 97) = wr ∧ ∃ (F : T Int ByteArray) (p' : Option Addr) (a : Nat), r5 = .int .i64 a ∧ p6 = .pointer p' ∧ Tr w.heap.size (w.alloc (.cells #[.pointer p] 97)) p' F ∧ a + F.size ≤ t.size ∧ Hid (F.size = n) ∧ Hid (a + F.rank k = t.rank k))
  case atStart => exact ⟨rfl, t, _, 0, rfl, rfl, h', by omega, rfl, by simp [Hid]⟩
  case round =>
    obtain ⟨rfl, F, p', a, rfl, rfl, hF, ha, HS, hr⟩ := hrel
    cases F with
    | nil =>
      obtain rfl : p' = none := hF
      go_wp2
      go_ret
      exact ⟨ret_int (by have := hr.out; simp only [T.rank] at this; omega), hb⟩
    | node l q v r =>
      obtain ⟨b, pl, pr, rfl, hb', c0, c1, c2, c3, c4, hl, hr'⟩ := id hF
      simp only [T.size] at ha
      cases hk : KOrd.lt q k with
      | true =>
        have HE : Hid ((T.node l q v r).rank k = l.size + 1 + r.rank k) := by simp [Hid, T.rank, hk]
        have hk' : q < k := by simpa using hk
        clear hk c4
        go_wp2_with (go_at_call 89; refine (len_any l _ _ _ hl).mono ?_; rintro e w' ⟨rfl, rfl⟩)
        go_roundg r.size
        case measure => have := HS.out; simp only [T.size] at this; omega
        case rel => exact ⟨rfl, r, _, a + (l.size + 1), by go_num, rfl, hr', by omega, rfl, by have := HE.out; have := hr.out; simp only [Hid]; omega⟩
      | false =>
        have HE : Hid ((T.node l q v r).rank k = l.rank k) := by simp [Hid, T.rank, hk]
        have hk' : k ≤ q := by simpa using hk
        clear hk c4
        go_wp2
        go_roundg l.size
        case measure => have := HS.out; simp only [T.size] at this; omega
        case rel => exact ⟨rfl, l, _, a, rfl, rfl, hl, by omega, rfl, by have := HE.out; have := hr.out; simp only [Hid]; omega⟩

set_option maxRecDepth 100000 in
set_option maxHeartbeats 2000000 in
theorem Floor_any (t : T Int ByteArray) (k : Int) (p : Option Addr) (w : World) (h : Tr w.heap.size w p t) :
    Calls Try.prog 49 #[.agg #[.pointer p], .int .i64 k] w fun e w' => e = .returned (toldV (T.floor k .nil t)) ∧ Below w.heap.size w w' := by
  have hb := (Below.refl w.heap.size w).alloc (Nat.le_refl _) (.cells #[.pointer p] 97)
  have h' : Tr w.heap.size (w.alloc (.cells #[.pointer p] 97)) p t := h.below hb
  go_enter Try.func49, Try.ntmps49
  go_wp2_with fail
  go_loopg [7, 8] t.size (fun n p7 p8 wr => Below w.heap.size w wr ∧ ∃ (F B : T Int ByteArray) (p' pb : Option Addr), p7 = .pointer pb ∧ p8 = .pointer p' ∧ Tr w.heap.size wr p' F ∧ Tr w.heap.size wr pb B ∧ Hid (F.size = n) ∧ Hid (T.floor k B F = T.floor k .nil t))
  case atStart => exact ⟨hb, t, .nil, _, _, rfl, rfl, h', rfl, rfl, rfl⟩
  case round =>
    obtain ⟨hbw, F, B, p', pb, rfl, rfl, hF, hB, HS, hr⟩ := hrel
    cases F with
    | nil =>
      obtain rfl : p' = none := hF
      have HQ : Hid (B = T.floor k .nil t) := by have := hr.out; exact this
      go_wp2_with (go_at_call 88; refine (told_any B _ _ _ hB).mono ?_; rintro e w' ⟨rfl, n, rfl⟩; cases B <;> simp only [toldV])
      all_goals go_ret3
      all_goals exact ⟨by rw [← HQ.out]; rfl, below_draws hbw _⟩
    | node l q v r =>
      obtain ⟨b, pl, pr, rfl, hb', c0, c1, c2, c3, c4, hl, hr'⟩ := id hF
      cases hk : KOrd.lt k q with
      | true =>
        have HE : Hid (T.floor k B (T.node l q v r) = T.floor k B l) := by simp [Hid, T.floor, hk]
        have hk' : k < q := by simpa using hk
        clear hk c4
        go_wp2
        go_roundg l.size
        case measure => have := HS.out; simp only [T.size] at this; omega
        case rel => exact ⟨hbw, l, B, _, _, rfl, rfl, hl, hB, rfl, HE.out.symm.trans hr.out⟩
      | false =>
        have HE : Hid (T.floor k B (T.node l q v r) = T.floor k (.node l q v r) r) := by simp [Hid, T.floor, hk]
        have hk' : q ≤ k := by simpa using hk
        clear hk c4
        go_wp2
        go_quiet (fail)
        go_wp2
        go_roundg r.size
        case measure => have := HS.out; simp only [T.size] at this; omega
        case rel => exact ⟨below_draws hbw _, r, .node l q v r, _, _, rfl, rfl, hr'.below (below_draws (Below.refl _ _) _), hF.below (below_draws (Below.refl _ _) _), rfl, HE.out.symm.trans hr.out⟩
end Go.Proofs.MT.IS

/- The tree's functions build and Of (IS). -/
namespace Go.Proofs.MT.IS
open Go.RowKit

/-- What build leaves: a balanced tree of the pairs. -/
def Builds (l : List (Int × ByteArray)) (w : World) (e : Ending) (w' : World) : Prop :=
  ∃ p T, e = .returned (.pointer p) ∧ Tr w'.heap.size w' p T ∧ T.toList = l ∧ T.Bal ∧ Below w.heap.size w w'

def BuildSaid (n : Nat) : Prop := ∀ (l : List (Int × ByteArray)) (A : Option Addr) (len c : Nat) (w : World), l.length = len → len ≤ n → len ≤ c → len ≤ 1099511627776 → Row2 ek ev w.heap.size w A l →
  Calls Try.prog 87 #[.slice A len c] w (Builds l w)

theorem build_none (A : Option Addr) (c : Nat) (w : World) : Calls Try.prog 87 #[.slice A 0 c] w fun e w' => e = .returned (.pointer none) ∧ w = w' := by
  go_enter Try.func87, Try.ntmps87
  go_wp2
  go_ret
  exact ⟨rfl, rfl⟩

theorem build_nil (A : Option Addr) (c : Nat) (w : World) : Calls Try.prog 87 #[.slice A 0 c] w (Builds [] w) := by
  refine (build_none A c w).mono ?_
  rintro e w' ⟨rfl, rfl⟩
  exact ⟨none, .nil, rfl, rfl, rfl, trivial, Below.refl _ _⟩

/-- One pair, and no room behind it. -/
theorem build_one (x : Int × ByteArray) (b o : Nat) (w : World) (hlt : b < w.heap.size) (c0 : w.cell? ⟨b, o, none⟩ = some (ek x.1)) (c1 : w.cell? ⟨b, o + 1, none⟩ = some (ev x.2)) :
    Calls Try.prog 87 #[.slice (some ⟨b, o, none⟩) 1 1] w (Builds [x] w) := by
  have f0 : ∀ w', Below w.heap.size w w' → w'.cell? ⟨b, o, none⟩ = some (ek x.1) := fun w' h => (h.cell (p := ⟨b, _, none⟩) hlt).trans c0
  have f1 : ∀ w', Below w.heap.size w w' → w'.cell? ⟨b, o + 1, none⟩ = some (ev x.2) := fun w' h => (h.cell (p := ⟨b, _, none⟩) hlt).trans c1
  clear c0 c1
  have ws1 : IntKind.i64.wrap 1 = 1 := by decide
  have ws2 : IntKind.i64.wrap 2 = 2 := by decide
  go_enter Try.func87, Try.ntmps87
  go_wp2_with fail
  go_region_held3 (fun w' => Below w.heap.size w w') (repeat (first | assumption | exact Below.refl _ _ | apply Below.drew)) (first
          | (go_at_call 87; (with_reducible refine (build_none _ _ _).mono ?_); rintro e w' ⟨rfl, rfl⟩)
          | (go_at_call 115; refine (over_any .nil .nil x.1 x.2 _ _ _ rfl rfl (by simp [T.size]) (by simp [T.size])).mono ?_; rintro e w3 ⟨p3, rfl, ht3, hb3⟩; have hk3 : Below w.heap.size w w3 := Below.trans (by assumption) (hb3.mono (Below.size (by assumption)))))
  go_wp2
  go_ret
  exact ⟨p3, _, rfl, ht3, rfl, ⟨by simp [T.size], by simp [T.size], trivial, trivial⟩, hk3⟩

theorem build_two (n : Nat) (IH : BuildSaid (n + 1)) (y x : Int × ByteArray) (b o : Nat) (w : World) (hlt : b < w.heap.size) (hr : Row2 ek ev w.heap.size w (some ⟨b, o, none⟩) [y]) (c0 : w.cell? ⟨b, o + 2, none⟩ = some (ek x.1)) (c1 : w.cell? ⟨b, o + 2 + 1, none⟩ = some (ev x.2)) :
    Calls Try.prog 87 #[.slice (some ⟨b, o, none⟩) 2 2] w (Builds [y, x] w) := by
  have f0 : ∀ w', Below w.heap.size w w' → w'.cell? ⟨b, o + 2, none⟩ = some (ek x.1) := fun w' h => (h.cell (p := ⟨b, _, none⟩) hlt).trans c0
  have f1 : ∀ w', Below w.heap.size w w' → w'.cell? ⟨b, o + 2 + 1, none⟩ = some (ev x.2) := fun w' h => (h.cell (p := ⟨b, _, none⟩) hlt).trans c1
  clear c0 c1
  have ws1 : IntKind.i64.wrap 1 = 1 := by decide
  have ws2 : IntKind.i64.wrap 2 = 2 := by decide
  go_enter Try.func87, Try.ntmps87
  go_wp2_with fail
  go_region_held3 (fun w' => Below w.heap.size w w') (repeat (first | assumption | exact Below.refl _ _ | apply Below.drew)) (first
          | (go_at_call 87; (with_reducible refine (build_none _ _ _).mono ?_); rintro e w' ⟨rfl, rfl⟩)
          | (go_at_call 87; refine (IH [y] (some ⟨b, o, none⟩) 1 2 _ rfl (by omega) (by omega) (by omega) (hr.later (by assumption))).mono ?_; rintro e w1 ⟨p1, L, rfl, ht1, hL, hBL, hb1⟩; have hk1 : Below w.heap.size w w1 := Below.trans (by assumption) (hb1.mono (Below.size (by assumption))); have HLL := Lib.hid hL; clear hL)
          | (go_at_call 115; refine (over_any L .nil x.1 x.2 _ _ _ ht1 rfl (by have h1 := T.length_toList L; rw [HLL.out] at h1; simp at h1; omega) (by simp [T.size])).mono ?_; rintro e w3 ⟨p3, rfl, ht3, hb3⟩; have hk3 : Below w.heap.size w w3 := Below.trans hk1 (hb3.mono hk1.size)))
  go_wp2
  go_ret
  have h1 := T.length_toList L
  rw [HLL.out] at h1
  simp at h1
  exact ⟨p3, _, rfl, ht3, by rw [T.toList, HLL.out]; rfl, ⟨by simp [T.size]; omega, by simp [T.size]; omega, hBL, trivial⟩, hk3⟩

set_option maxRecDepth 100000 in
set_option maxHeartbeats 2000000 in
theorem build_cons (n : Nat) (IH : BuildSaid n) (l : List (Int × ByteArray)) (A : Option Addr) (c : Nat) (w : World) (hn : l.length ≤ n + 1) (hp : 0 < l.length) (hc : l.length ≤ c) (hm : l.length ≤ 1099511627776) (hcap : ¬ l.length / 2 + 1 = c) (hr : Row2 ek ev w.heap.size w A l) :
    Calls Try.prog 87 #[.slice A l.length c] w (Builds l w) := by
  rcases hr with rfl | ⟨b, o, rfl, hlt, hcell⟩
  · simp at hp
  obtain ⟨len, hlen⟩ : ∃ len, len = l.length := ⟨_, rfl⟩
  rw [← hlen] at hn hp hc hm hcap ⊢
  obtain ⟨m, hme⟩ : ∃ m, m = len / 2 := ⟨_, rfl⟩
  rw [← hme] at hcap
  have e2 : (len : Int) / 2 = (m : Int) := by omega
  have hml : m < len := by omega
  obtain ⟨x, hx⟩ : ∃ x, l[m]? = some x := ⟨l[m], List.getElem?_eq_getElem (by omega)⟩
  obtain ⟨c0, c1⟩ := hcell _ _ hx
  have f0 : ∀ w', Below w.heap.size w w' → w'.cell? ⟨b, o + m * 2, none⟩ = some (ek x.1) := fun w' h => (h.cell (p := ⟨b, _, none⟩) hlt).trans c0
  have f1 : ∀ w', Below w.heap.size w w' → w'.cell? ⟨b, o + m * 2 + 1, none⟩ = some (ev x.2) := fun w' h => (h.cell (p := ⟨b, _, none⟩) hlt).trans c1
  have HL := Lib.hid hlen
  have HX := Lib.hid hx
  have HM := Lib.hid hme
  have HE := Lib.hid e2
  clear hlen hx c0 c1 hme e2
  have b1 : (0 : Int) ≤ (m : Int) := by omega
  have b2 : (m : Int) < (len : Int) := by omega
  have b3 : (m : Int) ≤ (len : Int) := by omega
  have b4 : (m : Int) ≤ (c : Int) := by omega
  have b5 : IntKind.i64.wrap ((m : Int) + 1) = (m : Int) + 1 := by rw [IntKind.wrap_i64]; omega
  have b6 : (0 : Int) ≤ (m : Int) + 1 := by omega
  have b7 : (m : Int) + 1 ≤ (len : Int) := by omega
  have b8 : ((m : Int) + 1).toNat = m + 1 := by omega
  have b9 : (m : Int) + 1 ≤ (c : Int) := by omega
  have b10 : (len : Int) ≤ (c : Int) := by omega
  have H5 := Lib.hid b5
  have H8 := Lib.hid b8
  clear b5 b8
  go_enter Try.func87, Try.ntmps87
  go_wp2_with fail
  rw [HE.out]
  have b5 := H5.out
  have b8 := H8.out
  have hone : (l.take m).length = m := by have := HL.out; rw [List.length_take]; omega
  have htwo : (l.drop (m + 1)).length = len - (m + 1) := by rw [List.length_drop, HL.out]
  have H1 := Lib.hid hone
  have H2 := Lib.hid htwo
  clear hone htwo
  have hr1 : Row2 ek ev w.heap.size w (some ⟨b, o, none⟩) (l.take m) := Row2.take (.inr ⟨b, o, rfl, hlt, hcell⟩) m
  have hr2 : Row2 ek ev w.heap.size w (some ⟨b, o + (m + 1) * 2, none⟩) (l.drop (m + 1)) := Row2.drop hlt hcell (m + 1)
  clear hcell
  have hfin : ∀ L R : T Int ByteArray, L.toList = l.take m → R.toList = l.drop (m + 1) → (T.node L x.1 x.2 R).toList = l := by
    intro L R h1 h2
    rw [T.toList, h1, h2]
    have := HX.out
    have e : l.drop m = x :: l.drop (m + 1) := by
      rw [List.drop_eq_getElem_cons (by have := HL.out; omega)]
      rw [List.getElem?_eq_getElem (by have := HL.out; omega)] at this
      injection this with this
      rw [this]
    show l.take m ++ x :: l.drop (m + 1) = l
    rw [← e, List.take_append_drop]
  have HF := Lib.hid hfin
  clear hfin
  go_region_held3 (fun w' => Below w.heap.size w w') (repeat (first | assumption | exact Below.refl _ _ | apply Below.drew)) (first
          | (go_at_call_of 87 len; refine (IH (l.drop (m + 1)) _ _ _ _ H2.out (by omega) (by omega) (by omega) (hr2.later hk1)).mono ?_; rintro e w2 ⟨p2, R, rfl, ht2, hR, hBR, hb2⟩; have hk2 : Below w.heap.size w w2 := Below.trans hk1 (hb2.mono hk1.size); have HR := Lib.hid hR; clear hR)
          | (go_at_call 87; refine (IH (l.take m) _ _ _ _ H1.out (by omega) (by omega) (by omega) (hr1.later (by assumption))).mono ?_; rintro e w1 ⟨p1, L, rfl, ht1, hL, hBL, hb1⟩; have hk1 : Below w.heap.size w w1 := Below.trans (by assumption) (hb1.mono (Below.size (by assumption))); have HLL := Lib.hid hL; clear hL)
          | (go_at_call 115; refine (over_any L R x.1 x.2 _ _ _ (ht1.later hb2) ht2 (by have h1 := T.length_toList L; have h2 := H1.out; rw [HLL.out, h2] at h1; omega) (by have h1 := T.length_toList R; have h2 := H2.out; rw [HR.out, h2] at h1; omega)).mono ?_; rintro e w3 ⟨p3, rfl, ht3, hb3⟩; have hk3 : Below w.heap.size w w3 := Below.trans hk2 (hb3.mono hk2.size)))
  go_wp2
  go_ret
  refine ⟨p3, _, rfl, ht3, HF.out L R HLL.out HR.out, ⟨?_, ?_, hBL, hBR⟩, hk3⟩
  · have h1 := T.length_toList L; have h2 := H1.out; rw [HLL.out, h2] at h1; have h3 := T.length_toList R; have h4 := H2.out; rw [HR.out, h4] at h3; have := HM.out; omega
  · have h1 := T.length_toList L; have h2 := H1.out; rw [HLL.out, h2] at h1; have h3 := T.length_toList R; have h4 := H2.out; rw [HR.out, h4] at h3; have := HM.out; omega

theorem build_all (n : Nat) : BuildSaid n := by
  induction n with
  | zero =>
    intro l A len c w hl h0 _ _ _
    obtain rfl : len = 0 := by omega
    obtain rfl : l = [] := List.eq_nil_of_length_eq_zero hl
    exact build_nil A c w
  | succ n IH =>
    intro l A len c w hl hn hc hm hr
    subst hl
    cases l with
    | nil => exact build_nil A c w
    | cons y ys =>
      by_cases hcap : (y :: ys).length / 2 + 1 = c
      · rcases hr with h | ⟨b, o, rfl, hlt, hcell⟩
        · cases h
        simp only [List.length_cons] at *
        cases ys with
        | nil =>
          obtain rfl : c = 1 := by simp at hcap; omega
          obtain ⟨c0, c1⟩ := hcell 0 y rfl
          exact build_one y b o w hlt (by simpa using c0) (by simpa using c1)
        | cons x zs =>
          obtain rfl : zs = [] := by
            cases zs with
            | nil => rfl
            | cons _ _ => simp only [List.length_cons] at *; omega
          obtain rfl : c = 2 := by simp at hcap; omega
          obtain ⟨n', rfl⟩ : ∃ n', n = n' + 1 := ⟨n - 1, by simp at hn; omega⟩
          obtain ⟨c0, c1⟩ := hcell 1 x rfl
          exact build_two n' IH y x b o w hlt (Row2.take (.inr ⟨b, o, rfl, hlt, hcell⟩) 1) (by simpa using c0) (by simpa using c1)
      · exact build_cons n IH (y :: ys) A c w hn (by simp) hc hm hcap hr
end Go.Proofs.MT.IS

/- The function Of (IS). -/
namespace Go.Proofs.MT.IS
open Go.RowKit

/-- What Of leaves: the balanced tree of ascending pairs, or nothing and the error. -/
def OfSaid (l : List (Int × ByteArray)) (w : World) (e : Ending) (w' : World) : Prop :=
  ∃ p c, e = .returned (.tuple #[.agg #[.pointer p], .int .i64 c]) ∧ Below w.heap.size w w' ∧
    ((AscTo l l.length ∧ c = 0 ∧ ∃ T, Tr w'.heap.size w' p T ∧ T.toList = l ∧ T.Bal) ∨ (¬ AscTo l l.length ∧ c = 2 ∧ p = none))

set_option maxRecDepth 100000 in
set_option maxHeartbeats 2000000 in
theorem Of_any (l : List (Int × ByteArray)) (A : Option Addr) (c : Nat) (w : World) (hc : l.length ≤ c) (hm : l.length ≤ 1099511627776) (hr : Row2 ek ev w.heap.size w A l) :
    Calls Try.prog 48 #[.slice A l.length c] w (OfSaid l w) := by
  have hb := (Below.refl w.heap.size w).alloc (Nat.le_refl _) (.cells #[.pointer none] 97)
  have hcn : (w.alloc (.cells #[.pointer none] 97)).cell? ⟨w.heap.size, 0, none⟩ = some (.pointer none) := cell_new _ _ _ _ _ _ rfl
  have hfz : (w.alloc (.cells #[.pointer none] 97)).frozen? ⟨w.heap.size, 0, none⟩ = false := by simp [go_sem]
  have hr0 := hr.later hb
  obtain ⟨len, hlen⟩ : ∃ len, len = l.length := ⟨_, rfl⟩
  rw [← hlen] at hc hm ⊢
  have HL := Lib.hid hlen
  clear hlen
  go_enter Try.func48, Try.ntmps48
  go_wp2_with fail
  obtain ⟨W0, hW0⟩ : ∃ W0, W0 = w.alloc (.cells #[.pointer none] 97) := ⟨_, rfl⟩
  have hs0 : w.heap.size < W0.heap.size := by rw [hW0]; simp
  have tg0 : tagAt W0 w.heap.size 97 := by rw [hW0]; exact tag_at _ _ _ _ _ rfl
  have HW := Lib.hid hW0
  rw [← hW0] at hb hcn hfz hr0 ⊢
  clear hW0
  go_loopg [7] len (fun n x7 wr => Below W0.heap.size W0 wr ∧ ∃ j : Nat, x7 = .int .i64 j ∧ j ≤ len ∧ Hid (len - j = n) ∧ Hid (AscTo l j))
  case atStart => exact ⟨Below.refl _ _, 0, rfl, by omega, rfl, AscTo.zero l⟩
  case round =>
    obtain ⟨hbw, j, rfl, hj, HN, HA⟩ := hrel
    obtain ⟨hcw, hfw⟩ := bcell hbw
    have hcr := hcw w.heap.size 0 hs0
    rw [hcn] at hcr
    have hfr := hfw w.heap.size 0 hs0
    rw [hfz] at hfr
    by_cases hlt : j < len
    · have hlt' : (j : Int) < (len : Int) := by omega
      have hle' : (j : Int) ≤ (len : Int) := by omega
      have hge' : (0 : Int) ≤ (j : Int) := by omega
      rcases hr0 with rfl | ⟨b, o, rfl, hbl, hcell⟩
      · have := HL.out
        simp at this
        omega
      obtain ⟨x, hx⟩ : ∃ x, l[j]? = some x := ⟨l[j]'(by have := HL.out; omega), List.getElem?_eq_getElem (by have := HL.out; omega)⟩
      have hwp : IntKind.i64.wrap ((j : Int) + 1) = ((j + 1 : Nat) : Int) := by rw [IntKind.wrap_i64]; push_cast; omega
      cases j with
      | zero =>
        have hd0 : decide ((0 : Int) < ((0 : Nat) : Int)) = false := by decide
        have HA' : Hid (AscTo l (0 + 1)) := AscTo.one l
        go_wp2
        go_quiet (fail)
        go_wp2
        go_roundg (len - 1)
        case measure => have := HN.out; omega
        case rel => exact ⟨below_draws hbw _, 1, rfl, by omega, rfl, HA'⟩
      | succ i =>
        obtain ⟨y, hy⟩ : ∃ y, l[i]? = some y := ⟨l[i]'(by have := HL.out; omega), List.getElem?_eq_getElem (by have := HL.out; omega)⟩
        have hd1 : (0 : Int) < ((i + 1 : Nat) : Int) := by omega
        have hwi : IntKind.i64.wrap (((i + 1 : Nat) : Int) - 1) = (i : Int) := by rw [IntKind.wrap_i64]; push_cast; omega
        have hi1 : (i : Int) < (len : Int) := by omega
        have hi0 : (0 : Int) ≤ (i : Int) := by omega
        have c0 := (hcw b (o + (i + 1) * 2) hbl).trans (hcell _ _ hx).1
        have c1 := (hcw b (o + i * 2) hbl).trans (hcell _ _ hy).1
        cases hk : KOrd.lt y.1 x.1 with
        | true =>
          have HA' : Hid (AscTo l (i + 1 + 1)) := AscTo.succ HA.out hy hx hk
          have hk' : decide (x.1 ≤ y.1) = false := by simp at hk; simp; omega
          clear hk
          go_wp2
          go_quiet (fail)
          go_wp2
          go_roundg (len - (i + 1 + 1))
          case measure => have := HN.out; omega
          case rel => exact ⟨below_draws hbw _, i + 1 + 1, rfl, by omega, rfl, HA'⟩
        | false =>
          have HNA : Hid (¬ AscTo l l.length) := AscTo.not hy hx hk
          have hk' : x.1 ≤ y.1 := by simpa using hk
          clear hk
          go_wp2
          go_quiet (fail)
          go_wp2
          exact bodyPost_ret (v := .tuple #[.agg #[.pointer none], .int .i64 2]) (by simp [results, Try.results48, go_sem, hcr]) rfl
            ⟨none, 2, rfl, (hb.trans ((below_draws hbw _).mono (Nat.le_of_lt hs0))).setCell (p := ⟨w.heap.size, 0, none⟩) (Nat.le_refl _) _, .inr ⟨HNA.out, rfl, rfl⟩⟩
    · obtain rfl : j = len := by omega
      go_wp2_with (go_at_call 87; refine (build_all j l A j c _ HL.out.symm (Nat.le_refl _) hc hm (hr0.later hbw)).mono ?_; rintro e w1 ⟨p1, T, rfl, ht1, hTl, hTB, hb1⟩; have hb2 := hbw.trans (hb1.mono hbw.size); obtain ⟨hc2, hf2⟩ := bcell hb2; have hcq := hc2 w.heap.size 0 hs0; rw [hcn] at hcq; have hfq := hf2 w.heap.size 0 hs0; rw [hfz] at hfq)
      exact bodyPost_ret (v := .tuple #[.agg #[.pointer p1], .int .i64 0]) (by simp [results, Try.results48, go_sem, hcq]) rfl
        ⟨p1, 0, rfl, (hb.trans (hb2.mono (Nat.le_of_lt hs0))).setCell (p := ⟨w.heap.size, 0, none⟩) (Nat.le_refl _) _,
          .inl ⟨by have := HA.out; rw [HL.out] at this; exact this, rfl, T, ht1.stored (a := ⟨w.heap.size, 0, none⟩) (tagAt.below tg0 hb2 hs0) (by decide) _, hTl, hTB⟩⟩
end Go.Proofs.MT.IS

/- alive: what every right map keeps of three pairs. -/
namespace Go.Proofs.MT.IS
open Go.RowKit

def l3 : List (Int × ByteArray) := [(1, ⟨#[97]⟩), (3, ⟨#[99]⟩), (5, ⟨#[101]⟩)]

theorem row3 (w : World) (f : Nat × Nat) : Row2 ek ev (w.alloc (.cells #[.int .i64 1, .string ⟨#[97]⟩, .int .i64 3, .string ⟨#[99]⟩, .int .i64 5, .string ⟨#[101]⟩] 101 f)).heap.size
    (w.alloc (.cells #[.int .i64 1, .string ⟨#[97]⟩, .int .i64 3, .string ⟨#[99]⟩, .int .i64 5, .string ⟨#[101]⟩] 101 f)) (some ⟨w.heap.size, 0, none⟩) l3 := by
  refine .inr ⟨w.heap.size, 0, rfl, by simp, ?_⟩
  intro i x hx
  match i with
  | 0 => injection hx with hx; subst hx; exact ⟨cell_new _ _ _ _ _ _ rfl, cell_new _ _ _ _ _ _ rfl⟩
  | 1 => injection hx with hx; subst hx; exact ⟨cell_new _ _ _ _ _ _ rfl, cell_new _ _ _ _ _ _ rfl⟩
  | 2 => injection hx with hx; subst hx; exact ⟨cell_new _ _ _ _ _ _ rfl, cell_new _ _ _ _ _ _ rfl⟩
  | n + 3 => cases hx

theorem asc3 : AscTo l3 l3.length := by
  intro i x y hi hx hy
  match i with
  | 0 => injection hx with hx; injection hy with hy; subst hx hy; decide
  | 1 => injection hx with hx; injection hy with hy; subst hx hy; decide
  | n + 2 => exact absurd hi (by show ¬ n + 2 + 1 < 3; omega)

theorem looks3 {t : T Int ByteArray} (h : t.toList = l3) : t.size = 3 ∧ T.rank 4 t = 2 ∧ toldV (T.floor 4 .nil t) = .tuple #[.int .i64 3, .string ⟨#[99]⟩, .bool true] ∧ 2 ≤ t.depth := by
  have hs : Sorted t.toList := by rw [h]; exact asc3.sorted
  have h3 : t.size = 3 := by rw [← T.length_toList, h]; rfl
  refine ⟨h3, ?_, ?_, ?_⟩
  · rw [T.rank_spec 4 t hs, h]; decide
  · have := T.floor_spec 4 t hs .nil
    rw [h, show (l3.filter fun p => !KOrd.lt 4 p.1) = [(1, ⟨#[97]⟩), (3, ⟨#[99]⟩)] from rfl] at this
    cases hf : T.floor 4 .nil t with
    | nil => rw [hf] at this; cases this
    | node l k v r =>
      rw [hf] at this
      injection this with this
      injection this with h1 h2
      subst h1 h2
      rfl
  · have := T.size_lt_depth t
    rw [h3] at this
    rcases Nat.lt_or_ge t.depth 2 with h | h
    · have : 2 ^ t.depth ≤ 2 ^ 1 := Nat.pow_le_pow_right (by decide) (by omega)
      omega
    · exact h

set_option maxRecDepth 100000 in
set_option maxHeartbeats 2000000 in
theorem alive_any (w : World) : Calls Try.prog 13 #[] w fun e w' => e = .returned (.bool true) ∧ Below w.heap.size w w' := by
  go_enter Try.func13, Try.ntmps13
  go_wp2_with fail
  refine (Of_any l3 _ 3 _ (Nat.le_refl _) (by decide) (row3 _ _)).mono ?_
  rintro e w1 ⟨p, c, rfl, hb1, ⟨-, rfl, t, ht, htl, -⟩ | ⟨hn, -⟩⟩
  rotate_left
  · exact absurd asc3 hn
  obtain ⟨k1, k2, k3, k4⟩ := looks3 htl
  have hb2 : Below w.heap.size w w1 := Below.trans ((Below.refl _ _).alloc (Nat.le_refl _) _) (hb1.mono (by simp))
  have ht2 := ht.later ((Below.refl w1.heap.size w1).alloc (Nat.le_refl _) (.cells #[.pointer p] 97))
  have hc0 : (w1.alloc (.cells #[.pointer p] 97)).cell? ⟨w1.heap.size, 0, none⟩ = some (.pointer p) := cell_new _ _ _ _ _ _ rfl
  have hs0 : w1.heap.size < (w1.alloc (.cells #[.pointer p] 97)).heap.size := by simp
  have hb3 : Below w.heap.size w (w1.alloc (.cells #[.pointer p] 97)) := hb2.alloc hb2.size _
  go_wp2_with fail
  generalize w1.alloc (.cells #[.pointer p] 97) = w2 at ht2 hc0 hs0 hb3 ⊢
  refine (Floor_any t 4 p _ ht2).mono ?_
  rintro e w3 ⟨rfl, hb4⟩
  have ht3 := ht2.later hb4
  have hc3 := (hb4.cell (p := ⟨w1.heap.size, 0, none⟩) hs0).trans hc0
  rw [k3]
  go_wp2_with fail
  refine (Len_any t p _ ht3).mono ?_
  rintro e w4 ⟨rfl, hb5⟩
  have ht4 := ht3.later hb5
  have hb6 := hb4.trans (hb5.mono hb4.size)
  have hc4 := (hb6.cell (p := ⟨w1.heap.size, 0, none⟩) hs0).trans hc0
  rw [k1]
  go_wp2_with fail
  refine (Rank_any t 4 p _ ht4 (by omega)).mono ?_
  rintro e w5 ⟨rfl, hb7⟩
  have ht5 := ht4.later hb7
  have hb8 := hb6.trans (hb7.mono hb6.size)
  have hc5 := (hb8.cell (p := ⟨w1.heap.size, 0, none⟩) hs0).trans hc0
  rw [k2]
  go_wp2_with fail
  refine (Depth_any t p _ ht5 (by omega)).mono ?_
  rintro e w6 ⟨rfl, hb9⟩
  have hb10 := hb8.trans (hb9.mono hb8.size)
  have hd : (2 : Int) ≤ (t.depth : Int) := by omega
  go_wp2
  go_ret
  exact ⟨rfl, hb3.trans (hb10.mono hb3.size)⟩
end Go.Proofs.MT.IS
