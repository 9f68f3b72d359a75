/-
  The unit's state in memory: its parts, each with blocks of its own (a colour a part). Plain lemmas; no condition. Small functions of the unit: check, Class, Alters, the atomic count, the parts' makers, walked. Conditions: as stated.
-/
import Derived.Test.YtjkpelbhhapebaaGreatDoorSDoW
import Derived.Test.YtjkpelbhhapebaaGreatDoorAAll
import Derived.Test.YtjkpelbhhapebaaGreatDoorMMode
import Derived.Laws.LoneSync
namespace Go.Proofs.YtjkpelbhhapebaaGreatDoor
open Go.RowKit
open W (Nxt)
set_option maxRecDepth 100000
/-- A registration: its nexus, its key. -/
abbrev Rg := Int × Int
def encR (r : Rg) : List Value := [.int .i64 r.1, .int .u64 r.2]
theorem encR_len : ∀ r, (encR r).length = 2 := fun _ => rfl
theorem encR_one : ∀ r, ∀ u ∈ encR r, u.oneCell' = true := by
  intro r u hu
  simp only [encR, List.mem_cons, List.not_mem_nil, or_false] at hu
  rcases hu with rfl | rfl <;> rfl
/-- The table of registrations. -/
structure Tb where
  regs : List Rg
  gen : Int
  kind : Int
  holder : Int
  aptpl : Bool
def tb0 : Tb := ⟨[], 0, 0, -1, false⟩
/-- The table at block t, with its row v. -/
def TB (w : World) (t : Nat) (v : Value) (T : Tb) : Prop := w.heap[t]? = some (.cells #[v, .int .u32 T.gen, .int .u8 T.kind, .int .i64 T.holder, .bool T.aptpl] 151 (0, 0))
def TBL (w : World) (t : Nat) (T : Tb) (F : Nat → Prop) : Prop := ∃ v, TB w t v T ∧ Row w 50 2 encR v T.regs ∧ v.ownBlock ≠ some t ∧ F t ∧ ∀ k, v.ownBlock = some k → F k
/-- The slots. -/
def SL (w : World) (kp wb : Nat) (s : ByteArray) (sure : Bool) (at_ gen : Int) : Prop := w.heap[kp]? = some (.cells #[.pointer (some ⟨wb, 0, none⟩), .string s, .bool sure, .int .i64 at_, .int .u64 gen] 174 (0, 0))
/-- Where a unit's parts lie. -/
structure UA where
  u : Nat
  dv : Nat
  p : Nat
  wb : Nat
  qb : Nat
  tb : Nat
  pg : Nat
  kp : Nat
/-- What a unit is. -/
structure US where
  prot : Int
  cache : Bool
  x : Wx
  bd : Nat
  L : Nat → List Int
  T : Tb
  now : M.V
  saved : M.V
  sure : Bool
  at_ : Int
  gen : Int
  done : Int
/-- The names of the unit's files: u.d, u.p. -/
def sd : ByteArray := ⟨#[117, 46, 100]⟩
def sp : ByteArray := ⟨#[117, 46, 112]⟩
def uS : ByteArray := ⟨#[83]⟩
def uE : ByteArray := ⟨#[]⟩
/-- The unit's cells: mu is the state of its Once's lock. -/
def uA (a : UA) (prot done mu count : Int) : Array Value := #[.string uE, .string uE, .string uE, .string uS, .int .u8 prot, .pointer (some ⟨a.dv, 0, none⟩), .pointer (some ⟨a.kp, 0, none⟩), .pointer (some ⟨a.pg, 0, none⟩), .pointer (some ⟨a.tb, 0, none⟩), .pointer (some ⟨a.qb, 0, none⟩), .slice none 0 0,
  .int .u32 done, .int .i32 mu, .int .u32 0, .int .i64 0, .int .i64 count]
def UB (w : World) (a : UA) (prot done mu count : Int) : Prop := w.heap[a.u]? = some (.cells (uA a prot done mu count) 99 (0, 0))
section
variable {w w' : World} {a : UA} {prot done mu count : Int} {F : Nat → Prop}
theorem UB.at_ (h : UB w a prot done mu count) (i : Nat) : w.cell? ⟨a.u, i, none⟩ = (uA a prot done mu count)[i]? := cell_of_row w a.u i _ 99 (0, 0) h
theorem UB.fr (h : UB w a prot done mu count) (i : Nat) : w.frozen? ⟨a.u, i, none⟩ = false := frozen_of_row w a.u i _ 99 h
theorem UB.lt (h : UB w a prot done mu count) : a.u < w.heap.size := (Array.getElem?_eq_some_iff.1 h).1
theorem UB.mod (h : UB w a prot done mu count) (hm : Mod F w w') (hn : ¬ F a.u) : UB w' a prot done mu count := hm.heap h hn
theorem UB.set (h : UB w a prot done mu count) (i : Nat) (v : Value) {d' m' c' : Int} (e : (uA a prot done mu count).setIfInBounds i v = uA a prot d' m' c') : UB (w.setCell ⟨a.u, i, none⟩ v) a prot d' m' c' := by
  unfold UB
  rw [heap_setCell_same w a.u i _ 99 _ h, e]
end
theorem TBL.mod {w w' : World} {t : Nat} {T : Tb} {F G : Nat → Prop} (h : TBL w t T F) (hm : Mod G w w') (hd : ∀ k, F k → ¬ G k) : TBL w' t T F := by
  obtain ⟨v, h1, h2, h3, h4, h5⟩ := h
  exact ⟨v, hm.heap h1 (hd _ h4), h2.mod hm (fun k hk => hd k (h5 k hk)), h3, h4, h5⟩
theorem TBL.lt {w : World} {t : Nat} {T : Tb} {F : Nat → Prop} (h : TBL w t T F) : t < w.heap.size := by
  obtain ⟨v, h1, -⟩ := h
  exact (Array.getElem?_eq_some_iff.1 h1).1
theorem TBL.bound {w : World} {t : Nat} {T : Tb} {F : Nat → Prop} (h : TBL w t T F) : TBL w t T (fun k => F k ∧ k < w.heap.size) := by
  have hl := h.lt
  obtain ⟨v, h1, h2, h3, h4, h5⟩ := h
  exact ⟨v, h1, h2, h3, ⟨h4, hl⟩, fun k hk => ⟨h5 k hk, h2.lt k hk⟩⟩
/-- The unit whole: c gives each block's colour, 0 to what is not the unit's. -/
structure UN (B : Nat) (c : Nat → Nat) (w : World) (a : UA) (S : US) (mu : Int) : Prop where
  wu : ∃ F, WU B w a.wb S.bd S.x F ∧ ∀ k, F k → c k = 1
  qu : ∃ F, A.Q w a.qb S.L F ∧ ∀ k, F k → c k = 2 ∧ B ≤ k ∧ k < w.heap.size
  tbl : ∃ F, TBL w a.tb S.T F ∧ ∀ k, F k → c k = 3 ∧ B ≤ k ∧ k < w.heap.size
  pgs : M.PG w a.pg S.now S.saved ∧ c a.pg = 4 ∧ B ≤ a.pg
  slo : SL w a.kp a.wb sp S.sure S.at_ S.gen ∧ c a.kp = 5 ∧ B ≤ a.kp
  sto : ST w a.p a.wb sd S.cache ∧ c a.p = 6 ∧ B ≤ a.p
  dev : DV w a.dv a.p S.prot ∧ c a.dv = 7 ∧ B ≤ a.dv
  own : (∃ n, UB w a S.prot S.done mu n) ∧ c a.u = 8 ∧ B ≤ a.u
  sup : ∀ k, w.heap.size ≤ k → c k = 0
  big : B ≤ w.heap.size
/-- What a step of the unit does. -/
structure UX (B : Nat) (c c' : Nat → Nat) (w w' : World) : Prop where
  col : ∀ k, k < w.heap.size → c' k = c k
  mod : Mod (fun k => c k ≠ 0) w w'
  bel : Below B w w'
section
variable {B : Nat} {c c' c'' : Nat → Nat} {w w' w'' : World} {a : UA} {S : US} {mu : Int} {G : Nat → Prop}
theorem UX.trans (h : UX B c c' w w') (k : UX B c' c'' w' w'') : UX B c c'' w w'' :=
  ⟨fun i hi => by rw [k.col i (Nat.lt_of_lt_of_le hi h.mod.size), h.col i hi], h.mod.trans k.mod (fun i hi e => by rwa [h.col i hi] at e), h.bel.trans k.bel⟩
theorem UN.mod (h : UN B c w a S mu) (hm : Mod G w w') (hG : ∀ k, G k → c k = 0) : UN B c w' a S mu := by
  have hn : ∀ {i k : Nat}, c k = i → i ≠ 0 → ¬ G k := fun e n g => n (e ▸ hG _ g)
  have hs := hm.size
  obtain ⟨F1, h1, h1c⟩ := h.wu
  obtain ⟨F2, h2, h2c⟩ := h.qu
  obtain ⟨F3, h3, h3c⟩ := h.tbl
  exact ⟨⟨F1, h1.mod hm (fun k hk => hn (h1c k hk) (by decide)), h1c⟩,
    ⟨F2, h2.mod hm (fun k hk => hn (h2c k hk).1 (by decide)), fun k hk => ⟨(h2c k hk).1, (h2c k hk).2.1, Nat.lt_of_lt_of_le (h2c k hk).2.2 hs⟩⟩,
    ⟨F3, h3.mod hm (fun k hk => hn (h3c k hk).1 (by decide)), fun k hk => ⟨(h3c k hk).1, (h3c k hk).2.1, Nat.lt_of_lt_of_le (h3c k hk).2.2 hs⟩⟩,
    ⟨h.pgs.1.mod hm (hn h.pgs.2.1 (by decide)), h.pgs.2⟩, ⟨hm.heap h.slo.1 (hn h.slo.2.1 (by decide)), h.slo.2⟩, ⟨h.sto.1.mod hm (hn h.sto.2.1 (by decide)), h.sto.2⟩,
    ⟨h.dev.1.mod hm (hn h.dev.2.1 (by decide)), h.dev.2⟩, ⟨by obtain ⟨n, hu⟩ := h.own.1; exact ⟨n, hu.mod hm (hn h.own.2.1 (by decide))⟩, h.own.2⟩, fun k hk => h.sup k (Nat.le_trans hs hk), Nat.le_trans h.big hs⟩
theorem UN.keep (h : UN B c w a S mu) (hm : Mod (fun _ => False) w w') : UN B c w' a S mu ∧ UX B c c w w' :=
  ⟨h.mod hm (fun _ e => e.elim), fun _ _ => rfl, hm.mono (fun _ _ e => e.elim), hm.below h.big (fun _ e => e.elim)⟩
theorem UX.refl (h : UN B c w a S mu) : UX B c c w w := (h.keep (Mod.refl _ _)).2
/-- New blocks get a colour. -/
theorem colour (c : Nat → Nat) (n i : Nat) (F F' : Nat → Prop) (h1 : ∀ k, F k → c k = i) (h2 : ∀ k, k < n → F' k → F k) : ∃ c' : Nat → Nat, (∀ k, k < n → c' k = c k) ∧ (∀ k, F' k → c' k = i) ∧ (∀ k, n ≤ k → ¬ F' k → c' k = 0) := by
  classical
  refine ⟨fun k => if k < n then c k else if F' k then i else 0, fun k hk => by simp [hk], fun k hk => ?_, fun k hk hF => by simp [Nat.not_lt.2 hk, hF]⟩
  by_cases hkn : k < n
  · simp [hkn, h1 k (h2 k hkn hk)]
  · simp [hkn, hk]
/-- The parts that a step of another colour leaves alone. -/
theorem UN.rest (h : UN B c w a S mu) (hm : Mod G w w') (i : Nat) (hG : ∀ k, G k → c k = i) (hc : ∀ k, k < w.heap.size → c' k = c k) :
    (i ≠ 1 → ∃ F, WU B w' a.wb S.bd S.x F ∧ ∀ k, F k → c' k = 1) ∧ (i ≠ 2 → ∃ F, A.Q w' a.qb S.L F ∧ ∀ k, F k → c' k = 2 ∧ B ≤ k ∧ k < w'.heap.size) ∧ (i ≠ 3 → ∃ F, TBL w' a.tb S.T F ∧ ∀ k, F k → c' k = 3 ∧ B ≤ k ∧ k < w'.heap.size) ∧
    (i ≠ 4 → M.PG w' a.pg S.now S.saved ∧ c' a.pg = 4 ∧ B ≤ a.pg) ∧ (i ≠ 5 → SL w' a.kp a.wb sp S.sure S.at_ S.gen ∧ c' a.kp = 5 ∧ B ≤ a.kp) ∧ (i ≠ 6 → ST w' a.p a.wb sd S.cache ∧ c' a.p = 6 ∧ B ≤ a.p) ∧
    (i ≠ 7 → DV w' a.dv a.p S.prot ∧ c' a.dv = 7 ∧ B ≤ a.dv) ∧ (i ≠ 8 → (∃ n, UB w' a S.prot S.done mu n) ∧ c' a.u = 8 ∧ B ≤ a.u) := by
  have hn : ∀ {j k : Nat}, c k = j → i ≠ j → ¬ G k := fun e n g => n (by rw [← e, hG _ g])
  have hs := hm.size
  obtain ⟨F1, h1, h1c⟩ := h.wu
  obtain ⟨F2, h2, h2c⟩ := h.qu
  obtain ⟨F3, h3, h3c⟩ := h.tbl
  refine ⟨fun n => ⟨F1, h1.mod hm (fun k hk => hn (h1c k hk) n), fun k hk => by rw [hc k (h1.bound k hk).2, h1c k hk]⟩,
    fun n => ⟨F2, h2.mod hm (fun k hk => hn (h2c k hk).1 n), fun k hk => ⟨by rw [hc k (h2c k hk).2.2, (h2c k hk).1], (h2c k hk).2.1, Nat.lt_of_lt_of_le (h2c k hk).2.2 hs⟩⟩,
    fun n => ⟨F3, h3.mod hm (fun k hk => hn (h3c k hk).1 n), fun k hk => ⟨by rw [hc k (h3c k hk).2.2, (h3c k hk).1], (h3c k hk).2.1, Nat.lt_of_lt_of_le (h3c k hk).2.2 hs⟩⟩,
    fun n => ⟨h.pgs.1.mod hm (hn h.pgs.2.1 n), by rw [hc _ h.pgs.1.lt, h.pgs.2.1], h.pgs.2.2⟩, fun n => ⟨hm.heap h.slo.1 (hn h.slo.2.1 n), by rw [hc _ (Array.getElem?_eq_some_iff.1 h.slo.1).1, h.slo.2.1], h.slo.2.2⟩,
    fun n => ⟨h.sto.1.mod hm (hn h.sto.2.1 n), by rw [hc _ h.sto.1.lt, h.sto.2.1], h.sto.2.2⟩, fun n => ⟨h.dev.1.mod hm (hn h.dev.2.1 n), by rw [hc _ h.dev.1.lt, h.dev.2.1], h.dev.2.2⟩,
    fun n => ?_⟩
  obtain ⟨m, hu⟩ := h.own.1
  exact ⟨⟨m, hu.mod hm (hn h.own.2.1 n)⟩, by rw [hc _ hu.lt, h.own.2.1], h.own.2.2⟩
theorem UX.of {i : Nat} (hm : Mod G w w') (hG : ∀ k, G k → c k = i) (hi : i ≠ 0) (hb : Below B w w') (hc : ∀ k, k < w.heap.size → c' k = c k) : UX B c c' w w' :=
  ⟨hc, hm.mono (fun k _ g => by rw [hG k g]; exact hi), hb⟩
/-- The world's part has turned. -/
theorem UN.world (h : UN B c w a S mu) {F F' : Nat → Prop} (hF : ∀ k, F k → c k = 1) (M' : Nat) (x' : Wx) (hW : WU B w' a.wb M' x' F') (hN : Nxt B F F' w w') :
    ∃ c', UN B c' w' a { S with x := x', bd := M' } mu ∧ UX B c c' w w' := by
  obtain ⟨c', c1, c2, c3⟩ := colour c w.heap.size 1 F F' hF hN.2.2
  obtain ⟨-, r2, r3, r4, r5, r6, r7, r8⟩ := h.rest hN.1 1 hF c1
  exact ⟨c', ⟨⟨F', hW, c2⟩, r2 (by decide), r3 (by decide), r4 (by decide), r5 (by decide), r6 (by decide), r7 (by decide), r8 (by decide), fun k hk => c3 k (Nat.le_trans hN.1.size hk) (fun hF' => absurd (hW.bound k hF').2 (Nat.not_lt.2 hk)), Nat.le_trans h.big hN.1.size⟩, UX.of hN.1 hF (by decide) hN.2.1 c1⟩
/-- The queues' part has turned. -/
theorem UN.queue (h : UN B c w a S mu) {F : Nat → Prop} (hF : ∀ k, F k → c k = 2 ∧ B ≤ k ∧ k < w.heap.size) (L' : Nat → List Int) (hQ : A.Q w' a.qb L' (Plus F w w')) (hm : Mod F w w') :
    ∃ c', UN B c' w' a { S with L := L' } mu ∧ UX B c c' w w' := by
  have hF2 : ∀ k, F k → c k = 2 := fun k hk => (hF k hk).1
  obtain ⟨c', c1, c2, c3⟩ := colour c w.heap.size 2 F (Plus F w w') hF2 (fun k hk hp => by
    rcases hp with hp | ⟨hp, -⟩
    · exact hp
    · omega)
  obtain ⟨r1, -, r3, r4, r5, r6, r7, r8⟩ := h.rest hm 2 hF2 c1
  have hs := hm.size
  have hb := h.big
  refine ⟨c', ⟨r1 (by decide), ⟨Plus F w w', hQ, fun k hk => ⟨c2 k hk, ?_⟩⟩, r3 (by decide), r4 (by decide), r5 (by decide), r6 (by decide), r7 (by decide), r8 (by decide), fun k hk => c3 k (Nat.le_trans hs hk) (fun hp => ?_), Nat.le_trans hb hs⟩, UX.of hm hF2 (by decide) (hm.below hb fun k hk => (hF k hk).2.1) c1⟩
  · rcases hk with hk | ⟨h1, h2⟩
    · exact ⟨(hF k hk).2.1, Nat.lt_of_lt_of_le (hF k hk).2.2 hs⟩
    · exact ⟨by omega, h2⟩
  · rcases hp with hp | ⟨-, h2⟩
    · have := (hF k hp).2.2; omega
    · omega
/-- A part of one block has turned. -/
theorem UN.one (h : UN B c w a S mu) (b i : Nat) (hb : c b = i) (hB : B ≤ b) (hm : Mod (fun k => k = b) w w') (hz : w'.heap.size = w.heap.size) :
    (∀ k, w'.heap.size ≤ k → c k = 0) ∧ B ≤ w'.heap.size ∧ (i ≠ 0 → UX B c c w w') :=
  ⟨fun k hk => h.sup k (by omega), Nat.le_trans h.big hm.size, fun hi => UX.of (i := i) hm (fun k e => by rw [e]; exact hb) hi (hm.below h.big (fun k e => by rw [e]; exact hB)) (fun _ _ => rfl)⟩
/-- The unit's own block has turned. -/
theorem UN.self (h : UN B c w a S mu) {done' mu' n' : Int} (hu : UB w' a S.prot done' mu' n') (hm : Mod (fun k => k = a.u) w w') (hz : w'.heap.size = w.heap.size) :
    UN B c w' a { S with done := done' } mu' ∧ UX B c c w w' := by
  have hG : ∀ k, k = a.u → c k = 8 := fun k e => by rw [e]; exact h.own.2.1
  obtain ⟨r1, r2, r3, r4, r5, r6, r7, -⟩ := h.rest hm 8 hG (fun _ _ => rfl)
  obtain ⟨o1, o2, o3⟩ := h.one a.u 8 h.own.2.1 h.own.2.2 hm hz
  exact ⟨⟨r1 (by decide), r2 (by decide), r3 (by decide), r4 (by decide), r5 (by decide), r6 (by decide), r7 (by decide), ⟨⟨n', hu⟩, h.own.2⟩, o1, o2⟩, o3 (by decide)⟩
/-- The slots have turned. -/
theorem UN.slots (h : UN B c w a S mu) {sure : Bool} {at_ gen : Int} (hu : SL w' a.kp a.wb sp sure at_ gen) (hm : Mod (fun k => k = a.kp) w w') (hz : w'.heap.size = w.heap.size) :
    UN B c w' a { S with sure := sure, at_ := at_, gen := gen } mu ∧ UX B c c w w' := by
  have hG : ∀ k, k = a.kp → c k = 5 := fun k e => by rw [e]; exact h.slo.2.1
  obtain ⟨r1, r2, r3, r4, -, r6, r7, r8⟩ := h.rest hm 5 hG (fun _ _ => rfl)
  obtain ⟨o1, o2, o3⟩ := h.one a.kp 5 h.slo.2.1 h.slo.2.2 hm hz
  exact ⟨⟨r1 (by decide), r2 (by decide), r3 (by decide), r4 (by decide), ⟨hu, h.slo.2⟩, r6 (by decide), r7 (by decide), r8 (by decide), o1, o2⟩, o3 (by decide)⟩
/-- The store's cache has turned. -/
theorem UN.store (h : UN B c w a S mu) {cache : Bool} (hu : ST w' a.p a.wb sd cache) (hm : Mod (fun k => k = a.p) w w') (hz : w'.heap.size = w.heap.size) :
    UN B c w' a { S with cache := cache } mu ∧ UX B c c w w' := by
  have hG : ∀ k, k = a.p → c k = 6 := fun k e => by rw [e]; exact h.sto.2.1
  obtain ⟨r1, r2, r3, r4, r5, -, r7, r8⟩ := h.rest hm 6 hG (fun _ _ => rfl)
  obtain ⟨o1, o2, o3⟩ := h.one a.p 6 h.sto.2.1 h.sto.2.2 hm hz
  exact ⟨⟨r1 (by decide), r2 (by decide), r3 (by decide), r4 (by decide), r5 (by decide), ⟨hu, h.sto.2⟩, r7 (by decide), r8 (by decide), o1, o2⟩, o3 (by decide)⟩
/-- The pages have turned, with new memory beside. -/
theorem UN.pages (h : UN B c w a S mu) {now saved : M.V} (hu : M.PG w' a.pg now saved) (hm : Mod (fun k => k = a.pg) w w') :
    UN B c w' a { S with now := now, saved := saved } mu ∧ UX B c c w w' := by
  have hG : ∀ k, k = a.pg → c k = 4 := fun k e => by rw [e]; exact h.pgs.2.1
  obtain ⟨r1, r2, r3, -, r5, r6, r7, r8⟩ := h.rest hm 4 hG (fun _ _ => rfl)
  have hs := hm.size
  exact ⟨⟨r1 (by decide), r2 (by decide), r3 (by decide), ⟨hu, h.pgs.2⟩, r5 (by decide), r6 (by decide), r7 (by decide), r8 (by decide), fun k hk => h.sup k (Nat.le_trans hs hk), Nat.le_trans h.big hs⟩,
    UX.of hm hG (by decide) (hm.below h.big (fun k e => by rw [e]; exact h.pgs.2.2)) (fun _ _ => rfl)⟩
end
end Go.Proofs.YtjkpelbhhapebaaGreatDoor
namespace Go.Proofs.YtjkpelbhhapebaaGreatDoor
open Go.RowKit
open W (Nxt)
set_option maxRecDepth 100000
set_option maxHeartbeats 1000000 in
theorem check_any (key code info : Int) (has : Bool) (w : World) : Calls Tryz.prog 19 #[.agg (seA key code info has)] w fun e w' => e = .returned (rsA 2 key code info has (.slice none 0 0)) ∧ Mod (fun _ => False) w w' := by
  go_enter Tryz.func19, Tryz.ntmps19
  go_wp2
  exact bodyPost_ret (v := rsA 2 key code info has (.slice none 0 0)) (by simp [results, Tryz.results19, go_sem]) rfl ⟨rfl, ((Mod.refl _ w).alloc _).alloc _⟩
def classOf : List (Int × Int) := [(1, 1), (7, 1), (5, 1), (8, 2), (12, 2), (14, 2), (4, 2), (11, 2), (2, 0), (16, 0)]
theorem class_any (k r : Int) (h : (k, r) ∈ classOf) (w : World) : Calls Tryz.prog 17 #[.int .u8 k] w fun e w' => e = .returned (.int .u8 r) ∧ w = w' := by
  simp only [classOf, List.mem_cons, Prod.mk.injEq, List.not_mem_nil, or_false] at h
  rcases h with ⟨rfl, rfl⟩ | ⟨rfl, rfl⟩ | ⟨rfl, rfl⟩ | ⟨rfl, rfl⟩ | ⟨rfl, rfl⟩ | ⟨rfl, rfl⟩ | ⟨rfl, rfl⟩ | ⟨rfl, rfl⟩ | ⟨rfl, rfl⟩ | ⟨rfl, rfl⟩
  all_goals
    go_enter Tryz.func17, Tryz.ntmps17
    go_wp2
    go_ret
    exact ⟨rfl, rfl⟩
def altersOf : List (Int × Bool) := [(8, true), (12, true), (14, true), (1, false), (2, false), (4, false), (5, false), (7, false), (11, false), (16, false)]
theorem alters_any (k : Int) (r : Bool) (h : (k, r) ∈ altersOf) (w : World) : Calls Tryz.prog 26 #[.int .u8 k] w fun e w' => e = .returned (.bool r) ∧ w = w' := by
  simp only [altersOf, List.mem_cons, Prod.mk.injEq, List.not_mem_nil, or_false] at h
  rcases h with ⟨rfl, rfl⟩ | ⟨rfl, rfl⟩ | ⟨rfl, rfl⟩ | ⟨rfl, rfl⟩ | ⟨rfl, rfl⟩ | ⟨rfl, rfl⟩ | ⟨rfl, rfl⟩ | ⟨rfl, rfl⟩ | ⟨rfl, rfl⟩ | ⟨rfl, rfl⟩
  all_goals
    go_enter Tryz.func26, Tryz.ntmps26
    go_wp2
    go_ret
    exact ⟨rfl, rfl⟩
theorem prnew_any (w : World) : Calls Tryz.prog 38 #[] w fun e w' => ∃ t, e = .returned (.pointer (some ⟨t, 0, none⟩)) ∧ TB w' t (.slice none 0 0) tb0 ∧ Mod (fun _ => False) w w' ∧ t = w.heap.size ∧ w'.heap.size = t + 1 := by
  go_enter Tryz.func38, Tryz.ntmps38
  go_wp2
  go_ret
  exact ⟨_, rfl, heap_alloc_new _ _, (Mod.refl _ w).alloc _, rfl, by simp⟩
theorem stopen_any (wb : Nat) (s : ByteArray) (cache : Bool) (w : World) (h1 : 1 ≤ s.size) (h2 : s.size ≤ 32) : Calls Tryz.prog 34 #[.pointer (some ⟨wb, 0, none⟩), .string s, .int .i64 32, .bool cache] w fun e w' => ∃ p, e = .returned (.tuple #[.pointer (some ⟨p, 0, none⟩), .int .i64 0]) ∧ ST w' p wb s cache ∧ Mod (fun _ => False) w w' ∧ p = w.heap.size ∧ w'.heap.size = p + 1 := by
  have d1 : decide ((s.size : Int) < 1) = false := by simp; omega
  have d2 : decide ((32 : Int) < s.size) = false := by simp; omega
  go_enter Tryz.func34, Tryz.ntmps34
  go_wp2
  go_ret2
  exact ⟨_, rfl, heap_alloc_new _ _, (Mod.refl _ w).alloc _, rfl, by simp⟩
theorem slopen_any (wb : Nat) (s : ByteArray) (w : World) (h1 : 1 ≤ s.size) (h2 : s.size ≤ 30) : Calls Tryz.prog 36 #[.pointer (some ⟨wb, 0, none⟩), .string s] w fun e w' => ∃ p, e = .returned (.tuple #[.pointer (some ⟨p, 0, none⟩), .int .i64 0]) ∧ SL w' p wb s false (-1) 0 ∧ Mod (fun _ => False) w w' ∧ p = w.heap.size ∧ w'.heap.size = p + 1 := by
  have d1 : decide ((s.size : Int) < 1) = false := by simp; omega
  have d2 : decide ((30 : Int) < s.size) = false := by simp; omega
  go_enter Tryz.func36, Tryz.ntmps36
  go_wp2
  go_ret2
  exact ⟨_, rfl, heap_alloc_new _ _, (Mod.refl _ w).alloc _, rfl, by simp⟩
/-- The count goes up. -/
theorem count_any (a : UA) (prot done mu n : Int) (w : World) (h : UB w a prot done mu n) : Calls Tryz.prog 20 #[.pointer (some ⟨a.u, 15, none⟩), .int .i64 1] w fun e w' => ∃ r m, e = .returned r ∧ UB w' a prot done mu m ∧ Mod (fun k => k = a.u) w w' ∧ w'.heap.size = w.heap.size := by
  have k15 : w.cell? ⟨a.u, 15, none⟩ = some (.int .i64 n) := h.at_ 15
  have f15 := h.fr 15
  have hadd := run_call_add (P := Tryz.prog) Tryz.func40 (by kernel_rfl) (by kernel_rfl) (by kernel_rfl) .i64 (by kernel_rfl) (y := 1) (s := IntKind.i64.wrap (n + 1)) k15 f15 (by simp [go_sem])
  have hE := hide (h.set 15 (.int .i64 (IntKind.i64.wrap (n + 1))) (d' := done) (m' := mu) (c' := IntKind.i64.wrap (n + 1)) rfl)
  have hM : Hid (Mod (fun k => k = a.u) w (w.setCell ⟨a.u, 15, none⟩ (.int .i64 (IntKind.i64.wrap (n + 1))))) := hide (mod_s (Mod.refl _ w))
  replace h := hide h
  generalize IntKind.i64.wrap (n + 1) = m at *
  go_enter Tryz.func20, Tryz.ntmps20
  go_wp2
  go_ret
  exact ⟨_, m, rfl, hE.out, hM.out, by simp [World.setCell]⟩
set_option maxHeartbeats 1000000 in
theorem text_any (s : ByteArray) (lo hi : Int) (w : World) (hs : s.size ≤ 100) (hall : ∀ (i : Nat) (h : i < s.size), 32 ≤ (s[i].toNat : Int) ∧ (s[i].toNat : Int) ≤ 126) (hlo : lo ≤ s.size) (hhi : (s.size : Int) ≤ hi) :
    Calls Tryz.prog 66 #[.string s, .int .i64 lo, .int .i64 hi] w fun e w' => e = .returned (.bool true) ∧ w = w' := by
  have dlo : decide (lo ≤ (s.size : Int)) = true := by simpa using hlo
  have dhi : decide ((s.size : Int) ≤ hi) = true := by simpa using hhi
  replace hall := hide hall
  go_enter Tryz.func66, Tryz.ntmps66
  go_wp2
  go_loop [7, 10] (fun _ v => ∃ k : Nat, k ≤ s.size ∧ v = .int .i64 k) (fun _ v => s.size - (intOf v).toNat)
  case atStart => exact ⟨0, by omega, rfl⟩
  case round =>
    obtain ⟨k, hk, rfl⟩ := hrel
    by_cases hlt : k < s.size
    · obtain ⟨b1, b2⟩ := hall.out k hlt
      have d1 : decide ((s[k].toNat : Int) < 32) = false := by simp; omega
      have d2 : decide (126 < (s[k].toNat : Int)) = false := by simp; omega
      go_wp2
      go_round
      case rel => exact ⟨k + 1, by omega, by go_num⟩
      case measure => simp [intOf]; omega
    · go_wp2
      go_ret
      exact ⟨rfl, rfl⟩
set_option maxHeartbeats 1000000 in
theorem form_any (prot : Int) (w : World) (hp : 0 ≤ prot ∧ prot ≤ 3) : Calls Tryz.prog 33 #[.agg #[.string uE, .string uE, .string uE, .string uS, .int .u8 prot]] w fun e w' => e = .returned (.bool true) ∧ Mod (fun _ => False) w w' := by
  have t1 := fun w => text_any uE 0 8 w (by decide) (fun i h => absurd h (by simp [uE, ByteArray.size])) (by decide) (by decide)
  have t2 := fun w => text_any uE 0 16 w (by decide) (fun i h => absurd h (by simp [uE, ByteArray.size])) (by decide) (by decide)
  have t3 := fun w => text_any uE 0 4 w (by decide) (fun i h => absurd h (by simp [uE, ByteArray.size])) (by decide) (by decide)
  have t4 := fun w => text_any uS 1 20 w (by decide) (fun i h => by
    have h0 : i = 0 := by simp [uS, ByteArray.size] at h; omega
    subst h0
    exact (by decide : (32 : Int) ≤ (((83 : UInt8).toNat : Nat) : Int) ∧ (((83 : UInt8).toNat : Nat) : Int) ≤ 126)) (by decide) (by decide)
  have d4 : decide (prot ≤ 3) = true := by simpa using hp.2
  have hm : Hid (Mod (fun _ => False) w (w.alloc (.cells #[.string uE, .string uE, .string uE, .string uS, .int .u8 prot] 69))) := hide ((Mod.refl _ w).alloc _)
  generalize uE = E at *
  generalize uS = Z at *
  replace t1 := hide t1; replace t2 := hide t2; replace t3 := hide t3; replace t4 := hide t4
  go_enter Tryz.func33, Tryz.ntmps33
  go_wp2_with (first
    | (go_at_call 66; (with_reducible refine (t1.out _).mono ?_); rintro e w' ⟨rfl, rfl⟩)
    | (go_at_call 66; (with_reducible refine (t2.out _).mono ?_); rintro e w' ⟨rfl, rfl⟩)
    | (go_at_call 66; (with_reducible refine (t3.out _).mono ?_); rintro e w' ⟨rfl, rfl⟩)
    | (go_at_call 66; (with_reducible refine (t4.out _).mono ?_); rintro e w' ⟨rfl, rfl⟩))
  go_ret
  exact ⟨rfl, hm.out⟩
end Go.Proofs.YtjkpelbhhapebaaGreatDoor
