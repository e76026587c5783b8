/- Snw. -/
import Derived.Test.YtboehbfagnocpaaGreatDoorUac
set_option linter.unusedVariables false
set_option linter.unusedSimpArgs false
set_option maxRecDepth 100000
open Go.Proofs.Tryz
open Go.Lib (hid)
namespace Go.Proofs.YtboehbfagnocpaaGreatDoor
open Go.RowKit Go.PlainAid
open SP
def newP (S : Nat) (ow bs l : List Int) : Pi := ⟨S, ow, bs, l, List.replicate l.length [], List.replicate ow.length none⟩
structure Szs (S : Nat) (l : List Int) : Prop where
  len : 1 ≤ l.length ∧ l.length ≤ 63
  lo : (64 : Int) ≤ l[0]?.getD 0
  hi : l[l.length - 1]?.getD 0 ≤ (S : Int)
  up : ∀ (i : Nat), i + 1 < l.length → l[i]?.getD 0 < l[i + 1]?.getD 0
theorem Szs.at {S : Nat} {l : List Int} (h : Szs S l) : ∀ (i : Nat), i < l.length → 64 ≤ l[i]?.getD 0 ∧ l[i]?.getD 0 ≤ (S : Int) := by
  have hup : ∀ (d i : Nat), i + d < l.length → l[i]?.getD 0 ≤ l[i + d]?.getD 0 := by
    intro d
    induction d with
    | zero => intro i _; exact Int.le_refl _
    | succ d ih =>
      intro i hi
      have h1 := ih i (by omega)
      have h2 := h.up (i + d) (by omega)
      have e : i + (d + 1) = i + d + 1 := by omega
      rw [e]
      omega
  intro i hi
  have h1 := hup i 0 (by omega)
  have h2 := hup (l.length - 1 - i) i (by omega)
  rw [Nat.zero_add] at h1
  rw [show i + (l.length - 1 - i) = l.length - 1 by omega] at h2
  have := h.lo
  have := h.hi
  omega
theorem granted_zero {ow : List Int} (h : AP.granted ow = 0) (hr : AP.Rng ow) (i : Nat) : ow[i]?.getD 0 = 0 := by
  unfold AP.granted at h
  have h1 : ow.countP (fun x => decide (0 < x)) = 0 := by omega
  rw [List.countP_eq_zero] at h1
  by_cases hi : i < ow.length
  · rw [List.getElem?_eq_getElem hi]
    have h2 := h1 _ (List.getElem_mem hi)
    have h3 := hr _ (List.getElem_mem hi)
    simp at h2 ⊢
    omega
  · rw [List.getElem?_eq_none (by omega)]; rfl
theorem newP_page (S : Nat) (ow bs l : List Int) (p : Nat) : (newP S ow bs l).page p = none := by
  unfold newP Pi.page
  dsimp only
  rw [List.getElem?_replicate]
  split <;> rfl
theorem newP_wf {S : Nat} {ow bs l : List Int} (hs : Szs S l) (hr : AP.Rng ow) (hg : AP.granted ow = 0) (hn : 1 ≤ ow.length ∧ ow.length ≤ 1024) (hS : 512 ≤ S ∧ S ≤ 65536) : Wf (newP S ow bs l) 0 :=
  ⟨hn, hr, hS, hs.len, fun x hx => by
    obtain ⟨i, hi, rfl⟩ := List.mem_iff_getElem.1 hx
    have hi2 : i < l.length := hi
    have := hs.at i hi2
    rw [List.getElem?_eq_getElem hi2] at this
    exact this, by simp [newP], by simp [newP], fun p _ => .inl ⟨newP_page _ _ _ _ p, granted_zero hg hr p⟩, fun c l' hl => (by
      simp only [newP, List.getElem?_replicate] at hl
      split at hl
      · cases hl; simp
      · cases hl), by omega⟩
theorem granted_at {w : World} {g k np : Nat} {size : Int} {bv : Value} {ow bs : List Int} (h : Ar w g k np size bv ow bs) {r : Int} (hr : AP.granted ow = r) :
    Calls prog 95 #[.pointer (some ⟨g, 0, none⟩)] w fun e w' => e = .returned (.int .i64 r) ∧ w = w' := by rw [← hr]; exact granted_any h
theorem sliE_info : (prog.info? 39).map (fun i => (i.zero, i.size, i.bytes)) = some (some (.slice none 0 0), 1, 24) := by kernel_rfl
theorem own_zero {w : World} {base n : Nat} {e : TypeId} {size : Nat} {v : Value} {xs : List Value} (h : w.ownsRow base e size v n xs) : w.ownsRow 0 e size v n xs := by
  refine ⟨h.1, ?_⟩
  rcases h.2 with h1 | ⟨g', cap', cur, h1, _, h3⟩
  · exact .inl h1
  · exact .inr ⟨g', cap', cur, h1, Nat.zero_le _, h3⟩
def NwPost (g k S : Nat) (bv : Value) (ow bs l : List Int) (w : World) (e : Ending) (w' : World) : Prop :=
  ∃ β, e = .returned (.tuple #[.pointer (some ⟨β.sb, 0, none⟩), .int .i64 0]) ∧ Mem w' β (newP S ow bs l) 0 ∧ Below w.heap.size w w' ∧ β.g = g ∧ (∀ b, foot β (newP S ow bs l) b → (b = g ∨ b = k ∨ bv.ownBlock = some b) ∨ w.heap.size ≤ b)
theorem NwPost.of {g k S : Nat} {bv : Value} {ow bs l : List Int} {w W1 w' : World} {e : Ending} (h : NwPost g k S bv ow bs l W1 e w') (hb : Below w.heap.size w W1) : NwPost g k S bv ow bs l w e w' := by
  obtain ⟨β, h1, h2, h3, h4, h5⟩ := h
  exact ⟨β, h1, h2, hb.trans (h3.mono hb.size), h4, fun b h6 => (h5 b h6).imp_right (Nat.le_trans hb.size)⟩
theorem newFin {w X : World} {g k np S m zb zc rb mb : Nat} {bv : Value} {ow bs l : List Int} (hbB : Below w.heap.size w X) (hA : Ar X g k np S bv ow bs) (hz : X.ownsRow 0 3 1 (.slice (some ⟨zb, 0, none⟩) (m + 1) zc) (m + 1) (l.map (.int .i64)))
    (hr : X.ownsRow 0 39 1 (.slice (some ⟨rb, 0, none⟩) (m + 1) (m + 1)) (m + 1) (madeCells (Value.slice none 0 0).cells ((m + 1) * 1)).toList) (hm : MapAt X mb 0 (fun _ => none))
    (h1 : w.heap.size ≤ zb) (h2 : w.heap.size ≤ rb) (h3 : w.heap.size ≤ mb) (h4 : zb ≠ rb) (h5 : zb ≠ mb) (h6 : rb ≠ mb) (hl : l.length = m + 1) (hA0 : Ar w g k np S bv ow bs) :
    NwPost g k S bv ow bs l w (.returned (.tuple #[.pointer (some ⟨X.heap.size, 0, none⟩), .int .i64 0])) (X.alloc (.cells #[.pointer (some ⟨g, 0, none⟩), .slice (some ⟨zb, 0, none⟩) (m + 1) zc, .slice (some ⟨rb, 0, none⟩) (m + 1) (m + 1), .map (some mb)] 193)) := by
  have hbx := (Below.refl _ X).alloc (Nat.le_refl _) (.cells #[.pointer (some ⟨g, 0, none⟩), .slice (some ⟨zb, 0, none⟩) (m + 1) zc, .slice (some ⟨rb, 0, none⟩) (m + 1) (m + 1), .map (some mb)] 193)
  have hs := World.alloc_heap_new X (.cells #[.pointer (some ⟨g, 0, none⟩), .slice (some ⟨zb, 0, none⟩) (m + 1) zc, .slice (some ⟨rb, 0, none⟩) (m + 1) (m + 1), .map (some mb)] 193)
  generalize hW : X.alloc (.cells #[.pointer (some ⟨g, 0, none⟩), .slice (some ⟨zb, 0, none⟩) (m + 1) zc, .slice (some ⟨rb, 0, none⟩) (m + 1) (m + 1), .map (some mb)] 193) = W at *
  have hWs : W.heap.size = X.heap.size + 1 := by rw [← hW]; simp
  have hAW := hA.belowB hbx
  have hlen := hA.len
  subst hlen
  have hne := hA0.ne
  have hgl : g < w.heap.size := (Array.getElem?_eq_some_iff.1 hA0.box).1
  have hkl : k < w.heap.size := (hA0.own.lt _ rfl).2
  have hbl : ∀ b, bv.ownBlock = some b → b < w.heap.size := fun b hb => (hA0.byt.lt b hb).2
  have hzl : zb < X.heap.size := (hz.lt _ rfl).2
  have hrl : rb < X.heap.size := (hr.lt _ rfl).2
  have hml : mb < X.heap.size := hm.lt
  have hXs := hbB.size
  have hrep : (madeCells (Value.slice none 0 0).cells ((m + 1) * 1)).toList = List.replicate (m + 1) (.slice none 0 0) := by rw [Nat.mul_one]; exact toList_madeCells_one _ (m + 1)
  rw [hrep] at hr
  have hrv : ∀ c v, (List.replicate (m + 1) (Value.slice none 0 0))[c]? = some v → v = Value.slice none 0 0 := fun c v h => by
    rw [List.getElem?_replicate] at h
    split at h
    · cases h; rfl
    · cases h
  have hblk : ∀ i b, blk ⟨X.heap.size, g, k, bv, zb, zc, rb, m + 1, List.replicate (m + 1) (.slice none 0 0), mb, fun _ => 0, fun _ => .slice none 0 0⟩ (newP S ow bs l) i = some b →
      (i = .sl ∧ b = X.heap.size) ∨ (i = .ar ∧ b = g) ∨ (i = .own ∧ b = k) ∨ (i = .byt ∧ bv.ownBlock = some b) ∨ (i = .siz ∧ b = zb) ∨ (i = .rows ∧ b = rb) ∨ (i = .map ∧ b = mb) := fun i b hb => by
    cases i with
    | sl => exact .inl ⟨rfl, (Option.some.inj hb).symm⟩
    | ar => exact .inr (.inl ⟨rfl, (Option.some.inj hb).symm⟩)
    | own => exact .inr (.inr (.inl ⟨rfl, (Option.some.inj hb).symm⟩))
    | byt => exact .inr (.inr (.inr (.inl ⟨rfl, hb⟩)))
    | siz => exact .inr (.inr (.inr (.inr (.inl ⟨rfl, (Option.some.inj hb).symm⟩))))
    | rows => exact .inr (.inr (.inr (.inr (.inr (.inl ⟨rfl, (Option.some.inj hb).symm⟩)))))
    | map => exact .inr (.inr (.inr (.inr (.inr (.inr ⟨rfl, (Option.some.inj hb).symm⟩)))))
    | row c =>
      simp only [blk] at hb
      cases hv : (List.replicate (m + 1) (Value.slice none 0 0))[c]? with
      | none => rw [hv] at hb; cases hb
      | some v =>
        rw [hv, hrv c v hv] at hb
        cases hb
    | pg p => simp only [blk, newP_page] at hb; cases hb
    | use p => simp only [blk, newP_page] at hb; cases hb
  refine ⟨⟨X.heap.size, g, k, bv, zb, zc, rb, m + 1, List.replicate (m + 1) (.slice none 0 0), mb, fun _ => 0, fun _ => .slice none 0 0⟩, rfl, ⟨fun i => ?_, fun i j b hi hj => ?_, fun i b hi => ?_⟩, hbB.trans (hbx.mono hXs), rfl, ?_⟩
  · cases i with
    | sl => show W.heap[X.heap.size]? = _; rw [hs]; simp only [newP, hl]
    | ar => exact hAW.box
    | own => exact hAW.own
    | byt => show W.ownsRow 0 _ 1 bv bs.length _; have := hAW.byt; exact this
    | siz => show W.ownsRow 0 _ 1 _ l.length (l.map (.int .i64)); simp only [newP]; rw [hl]; exact own_belowB hz hbx
    | rows => show W.ownsRow 0 _ 1 _ l.length _; simp only [newP]; rw [hl]; exact own_belowB hr hbx
    | row c =>
      intro v l' hv hl'
      have e1 := hrv c v hv
      simp only [newP, List.getElem?_replicate] at hl'
      split at hl'
      · cases hl'
        rw [e1]
        exact World.ownsRow_nil _ _ _ _
      · cases hl'
    | map =>
      have : fm ⟨X.heap.size, g, k, bv, zb, zc, rb, m + 1, List.replicate (m + 1) (.slice none 0 0), mb, fun _ => 0, fun _ => .slice none 0 0⟩ (newP S ow bs l) = fun _ => none := by
        funext q
        unfold fm
        split
        · rw [newP_page]; rfl
        · rfl
      show MapAt W mb 0 _
      rw [this]
      exact hm.kept (hbx.block _ hml)
    | pg p => intro x hx; rw [newP_page] at hx; cases hx
    | use p => intro x hx; rw [newP_page] at hx; cases hx
  · have hi' := hblk i b hi
    have hj' := hblk j b hj
    rcases hi' with ⟨rfl, ei⟩ | ⟨rfl, ei⟩ | ⟨rfl, ei⟩ | ⟨rfl, ei⟩ | ⟨rfl, ei⟩ | ⟨rfl, ei⟩ | ⟨rfl, ei⟩ <;> rcases hj' with ⟨rfl, ej⟩ | ⟨rfl, ej⟩ | ⟨rfl, ej⟩ | ⟨rfl, ej⟩ | ⟨rfl, ej⟩ | ⟨rfl, ej⟩ | ⟨rfl, ej⟩ <;>
      first
      | rfl
      | (exfalso; omega)
      | (exfalso; have := hbl b ei; omega)
      | (exfalso; have := hbl b ej; omega)
      | (exfalso; rw [ei] at ej; exact hne.2.1 ej)
      | (exfalso; rw [ei] at ej; exact hne.2.2 ej)
      | (exfalso; rw [ej] at ei; exact hne.2.1 ei)
      | (exfalso; rw [ej] at ei; exact hne.2.2 ei)
      | (exfalso; exact hne.1 (ei.symm.trans ej))
      | (exfalso; exact hne.1 (ej.symm.trans ei))
  · rcases hblk i b hi with ⟨rfl, ei⟩ | ⟨rfl, ei⟩ | ⟨rfl, ei⟩ | ⟨rfl, ei⟩ | ⟨rfl, ei⟩ | ⟨rfl, ei⟩ | ⟨rfl, ei⟩ <;> first | omega | (have := hbl b ei; omega)
  · rintro b ⟨i, hi⟩
    rcases hblk i b hi with ⟨rfl, ei⟩ | ⟨rfl, ei⟩ | ⟨rfl, ei⟩ | ⟨rfl, ei⟩ | ⟨rfl, ei⟩ | ⟨rfl, ei⟩ | ⟨rfl, ei⟩
    · exact .inr (by omega)
    · exact .inl (.inl ei)
    · exact .inl (.inr (.inl ei))
    · exact .inl (.inr (.inr ei))
    · exact .inr (by omega)
    · exact .inr (by omega)
    · exact .inr (by omega)
theorem makeMap_run (w : World) : ∃ w', (Instr.makeMap 191 none).run prog w = .ok (.map (some w.heap.size)) w' ∧ MapAt w' w.heap.size 0 (fun _ => none) ∧ Below w.heap.size w w' ∧ w.heap.size < w'.heap.size :=
  ⟨w.alloc (.map #[] 0), by rfl, MapAt.new w, (Below.refl _ w).alloc (Nat.le_refl _) _, by simp⟩
set_option maxRecDepth 100000 in
set_option maxHeartbeats 4000000 in
theorem new_ok {w : World} {g k np S : Nat} {bv : Value} {ow bs : List Int} (hA : Ar w g k np S bv ow bs) (hgr : AP.granted ow = 0) (A : Addr) (n c : Nat) (l : List Int) (hr : RI w (.slice (some A) n c) l) (hcap : n ≤ c) (hs : Szs S l) :
    Calls prog 46 #[.pointer (some ⟨g, 0, none⟩), .slice (some A) n c] w (NwPost g k S bv ow bs l w) := by
  have hln : l.length = n := by
    obtain ⟨a', cap', e, _⟩ := hr
    simp only [Value.slice.injEq] at e
    omega
  obtain ⟨b, o, hA0, hbl, hc0⟩ := hr.at (i := 0) (by have := hs.len; omega)
  obtain rfl := Option.some.inj hA0
  have hcell : ∀ i, i < n → w.cell? ⟨b, o + i, none⟩ = some (.int .i64 (l[i]?.getD 0)) := fun i hi => by
    obtain ⟨b', o', e, _, h2⟩ := hr.at hi
    simp only [Option.some.injEq, Addr.mk.injEq, and_true] at e
    obtain ⟨rfl, rfl⟩ := e
    exact h2
  have hlen := hs.len
  have hlo := hs.lo
  have hhi := hs.hi
  have hcl := hcell (n - 1) (by omega)
  rw [hln] at hlen hhi
  rw [Nat.add_zero] at hc0
  generalize hx0 : l[0]?.getD 0 = x0 at *
  generalize hx1 : l[n - 1]?.getD 0 = x1 at *
  have HA := hid hA
  have HG : Hid (∀ m, Calls prog 95 #[.pointer (some ⟨g, 0, none⟩)] (w.drewN m) fun e w' => e = .returned (.int .i64 0) ∧ w' = w.drewN m) := hid (fun m => (granted_at (hA.drewN m) hgr).mono (fun e w' h => ⟨h.1, h.2.symm⟩))
  have HP : Hid (∀ m, Calls prog 96 #[.pointer (some ⟨g, 0, none⟩)] (w.drewN m) fun e w' => e = .returned (.int .i64 S) ∧ w' = w.drewN m) := hid (fun m => (page_any (hA.drewN m)).mono (fun e w' h => ⟨h.1, h.2.symm⟩))
  have Hr := hid hr
  have Hs := hid hs
  have Hcell := hid hcell
  have Hln := hid hln
  obtain ⟨m, hm⟩ : ∃ m, n = m + 1 := ⟨n - 1, by omega⟩
  subst hm
  rw [Nat.add_sub_cancel] at hcl
  have g1 : decide (x0 < 64) = false := by simpa using hlo
  have g2 : decide ((S : Int) < x1) = false := by simpa using hhi
  have g3 : ((m + 1 : Nat) : Int) ≤ 63 := by omega
  have g4 : ((m : Int) + 1 == 0) = false := beq_eq_false_iff_ne.2 (by omega)
  have g5 : decide ((63 : Int) < (m : Int) + 1) = false := by simp; omega
  have g6 : (0 : Int) < (m : Int) + 1 := by omega
  have g7 : (m : Int) < (m : Int) + 1 := by omega
  clear hA hr hs hcell hgr hx0 hx1 hln
  go_enter func46, ntmps46
  go_wp2_with (fail)
  go_quiet ((first | (go_at_call 95; exact Calls.quiet_of_same (HG.out _)) | (go_at_call 96; exact Calls.quiet_of_same (HP.out _))))
  have hsz1 : (w.drewN nq).heap.size = w.heap.size := rfl
  obtain ⟨W1, hW1⟩ : ∃ W1, w.drewN nq = W1 := ⟨_, rfl⟩
  rw [hW1] at hsz1 ⊢
  have Hc1 : Hid (∀ i, i < m + 1 → W1.cell? ⟨b, o + i, none⟩ = some (.int .i64 (l[i]?.getD 0))) := hid (by rw [← hW1]; exact Hcell.out)
  have HA1 : Hid (Ar W1 g k np S bv ow bs) := hid (by rw [← hW1]; exact HA.out.drewN nq)
  have Hr1 : Hid (RI W1 (.slice (some ⟨b, o, none⟩) (m + 1) c) l) := hid (by rw [← hW1]; exact Hr.out)
  have hB1 : Below w.heap.size w W1 := by rw [← hW1]; exact below_drewN (Below.refl _ _) nq
  have HB1 := hid hB1
  clear hW1 hc0 hcl hB1
  have h1c : (1 : Int) ≤ (c : Int) := by omega
  have hmc : ((m : Int) + 1) ≤ (c : Int) := by omega
  go_upto_region 3 with (fail)
  go_cut [43, 44, 45] from 42 to 45 (fun s43 s44 s45 wx => ∃ a, s43 = .slice a m (c - 1) ∧ Hid (0 < m → a = some ⟨b, o + 1, none⟩) ∧ s44 = .int .i64 m ∧ s45 = .int .i64 0 ∧ W1 = wx)
  case first =>
    by_cases hc1 : c = 1
    · have hm0 : m = 0 := by omega
      subst hc1 hm0
      go_wp2
      go_meet
      case rel => exact ⟨_, rfl, hid (fun h => by omega), rfl, rfl, rfl⟩
    · have hc2 : ¬ ((c : Int) = 1) := by omega
      go_wp2
      all_goals go_meet
      case rel => exact ⟨_, rfl, hid (fun h => rfl), rfl, rfl, rfl⟩
  case rest =>
    obtain ⟨a, rfl, Ha, rfl, rfl, rfl⟩ := hcut
    go_upto_region 9 with (fail)
    go_loop [45, 6, 7] (fun i _ _ => ∃ k : Nat, k ≤ m ∧ i = .int .i64 k) (fun i _ _ => m - (intOf i).toNat)
    case atStart => exact ⟨0, Nat.zero_le _, rfl⟩
    case round =>
      obtain ⟨kk, hk, rfl⟩ := hrel
      by_cases hlt : kk < m
      · obtain rfl := Ha.out (by omega)
        have hcA := Hc1.out (kk + 1) (by omega)
        have hcB := Hc1.out kk (by omega)
        rw [show o + (kk + 1) = o + 1 + kk by omega] at hcA
        have hup := Hs.out.up kk (by rw [Hln.out]; omega)
        generalize l[kk + 1]?.getD 0 = xb at *
        generalize l[kk]?.getD 0 = xa at *
        have hd : decide (xb ≤ xa) = false := by simpa using hup
        have hkm : (kk : Int) < (m : Int) := by omega
        have hkm1 : (kk : Int) < (m : Int) + 1 := by omega
        go_wp2
        go_round
        case rel => exact ⟨kk + 1, by omega, by go_num⟩
        case measure => simp [intOf]; omega
      · obtain rfl : m = kk := by omega
        go_upto_region 9 with (fail)
        obtain ⟨j0, hj0, jz0, jz1, jz2⟩ := info_parts sliE_info
        clear Hcell hA0 HA HG HP Hr Hc1 Ha g1 g2
        refine wp_region_held_drew (S := fun _ => True) (by kernel_rfl) trivial (fun _ => ?_)
        obtain ⟨X0, hX0⟩ : ∃ X0, W1.drew = X0 := ⟨_, rfl⟩
        have HB0' : Below W1.heap.size W1 X0 := by rw [← hX0]; exact (Below.refl _ W1).drew
        have hA0 : Ar X0 g k np S bv ow bs := HA1.out.belowB HB0'
        have hs0 : X0.heap.size = W1.heap.size := by rw [← hX0]; rfl
        rw [hX0]
        clear hX0
        refine whE 0 rfl ?_
        (try simp only [lzP, lzA, lzS])
        refine whE 1 rfl ?_
        (try simp only [lzP, lzA, lzS])
        refine whE 3 rfl ?_
        (try simp only [lzP, lzA, lzS])
        refine whE 4 rfl ?_
        (try simp only [lzP, lzA, lzS])
        refine wpAnyH_ready (rs := [2, 5, 6]) (by kernel_rfl) (by simp) ?_
        refine AllReadyH.cons (o := _) rfl (fun K hK => ?_) (AllReadyH.cons (o := _) rfl (fun K hK => ?_) (AllReadyH.cons (o := _) rfl (fun K hK => ?_) AllReadyH.nil))
        · skip
          rw [if_pos (by rfl)]
          (try simp only [lzA])
          go_simp
          refine (cloneI_some ⟨b, o, none⟩ (m + 1) c l X0 (Hr1.out.below (HB0' : Below W1.heap.size W1 X0)) (by rw [Hln.out]; omega)).mono ?_
          rintro e X1 ⟨v, rfl, hz, hb1⟩
          rw [Hln.out] at hz
          obtain ⟨zb, zc, rfl, hzl, hzh⟩ := hz.form (by omega)
          have hz1 : X1.ownsRow 0 3 1 (.slice (some ⟨zb, 0, none⟩) (m + 1) zc) (m + 1) (l.map (.int .i64)) := own_zero hz
          dsimp only
          refine hK.out _ _ trivial (fun _ => ?_)
          clear hK K
          (try simp only [lzP, lzA, lzS])
          have HB1' : Below W1.heap.size W1 X1 := HB0'.trans (hb1.mono HB0'.size)
          have hsz1 := hb1.size
          have hA1 := hA0.belowB hb1
          refine wpAnyH_ready (rs := [5, 6]) (by kernel_rfl) (by simp) ?_
          refine AllReadyH.cons (o := _) rfl (fun K hK => ?_) (AllReadyH.cons (o := _) rfl (fun K hK => ?_) AllReadyH.nil)
          · skip
            rw [if_pos (by rfl)]
            (try simp only [lzA])
            obtain ⟨X2, hmk2, hr2, hg2⟩ := run_make_full (P := prog) X1 0 190 39 j0 (.slice none 0 0) 1 underlying190 hj0 jz0 jz1 .i64 .i64 (m + 1) (by rw [jz2]; omega) (by unfold maxLen; omega) (Nat.zero_le _)
            have hb2 : Below X1.heap.size X1 X2 := (Below.refl _ _).grown hg2 (Nat.le_refl _) (fun _ h => by cases h)
            rw [show ((m + 1 : Nat) : Int) = (m : Int) + 1 by omega] at hmk2
            obtain ⟨rb, hrb⟩ : ∃ rb, X1.heap.size = rb := ⟨_, rfl⟩
            rw [hrb] at hmk2 hr2
            have hrl : rb < X2.heap.size := (hr2.lt _ rfl).2
            go_simp
            refine hK.out _ _ trivial (fun _ => ?_)
            clear hK K
            (try simp only [lzP, lzA, lzS])
            have HB2' : Below W1.heap.size W1 X2 := HB1'.trans (hb2.mono HB1'.size)
            have hsz2 := hb2.size
            have hz2 := own_belowB hz1 hb2
            have hA2 := hA1.belowB hb2
            refine wpAnyH_ready (rs := [6]) (by kernel_rfl) (by simp) ?_
            refine AllReadyH.cons (o := _) rfl (fun K hK => ?_) AllReadyH.nil
            · skip
              rw [if_pos (by rfl)]
              (try simp only [lzA])
              obtain ⟨X3, hmk3, hm3, hb3, hms3⟩ := makeMap_run X2
              obtain ⟨mb, hmb⟩ : ∃ mb, X2.heap.size = mb := ⟨_, rfl⟩
              rw [hmb] at hm3 hmk3
              go_simp
              refine hK.out _ _ trivial (fun _ => ?_)
              clear hK K
              (try simp only [lzP, lzA, lzS])
              have HB3' : Below W1.heap.size W1 X3 := HB2'.trans (hb3.mono HB2'.size)
              have hsz3 := hb3.size
              have hz3 := own_belowB hz2 hb3
              have hr3 := own_belowB hr2 hb3
              have hA3 := hA2.belowB hb3
              have hfin := newFin (w := W1) HB3' hA3 hz3 hr3 hm3 (by omega) (by omega) (by omega) (by omega) (by omega) (by omega) Hln.out HA1.out
              have HFin := hid hfin
              clear hfin
              refine whE 7 rfl ?_
              (try simp only [lzP, lzA, lzS])
              refine wpAnyH_ready (rs := [8]) (by kernel_rfl) (by simp) ?_
              refine AllReadyH.cons (o := _) rfl (fun K hK => ?_) AllReadyH.nil
              rw [if_pos (by rfl)]
              (try simp only [lzA])
              go_simp
              refine hK.out _ _ trivial (fun _ => ?_)
              clear hK K
              (try simp only [lzP, lzA, lzS])
              refine whE 9 rfl ?_
              (try simp only [lzP, lzA, lzS])
              refine whE 10 rfl ?_
              (try simp only [lzP, lzA, lzS])
              refine wpAnyH_done (by kernel_rfl) ?_ _
              go_wp2
              go_ret2
              exact HFin.out.of HB1.out
          · skip
            rw [if_pos (by rfl)]
            (try simp only [lzA])
            obtain ⟨X2, hmk2, hm2, hb2, hms2⟩ := makeMap_run X1
            obtain ⟨mb, hmb⟩ : ∃ mb, X1.heap.size = mb := ⟨_, rfl⟩
            rw [hmb] at hm2 hmk2
            go_simp
            refine hK.out _ _ trivial (fun _ => ?_)
            clear hK K
            (try simp only [lzP, lzA, lzS])
            have HB2' : Below W1.heap.size W1 X2 := HB1'.trans (hb2.mono HB1'.size)
            have hsz2 := hb2.size
            have hz2 := own_belowB hz1 hb2
            have hA2 := hA1.belowB hb2
            refine wpAnyH_ready (rs := [5]) (by kernel_rfl) (by simp) ?_
            refine AllReadyH.cons (o := _) rfl (fun K hK => ?_) AllReadyH.nil
            · skip
              rw [if_pos (by rfl)]
              (try simp only [lzA])
              obtain ⟨X3, hmk3, hr3, hg3⟩ := run_make_full (P := prog) X2 0 190 39 j0 (.slice none 0 0) 1 underlying190 hj0 jz0 jz1 .i64 .i64 (m + 1) (by rw [jz2]; omega) (by unfold maxLen; omega) (Nat.zero_le _)
              have hb3 : Below X2.heap.size X2 X3 := (Below.refl _ _).grown hg3 (Nat.le_refl _) (fun _ h => by cases h)
              rw [show ((m + 1 : Nat) : Int) = (m : Int) + 1 by omega] at hmk3
              obtain ⟨rb, hrb⟩ : ∃ rb, X2.heap.size = rb := ⟨_, rfl⟩
              rw [hrb] at hmk3 hr3
              have hrl : rb < X3.heap.size := (hr3.lt _ rfl).2
              go_simp
              refine hK.out _ _ trivial (fun _ => ?_)
              clear hK K
              (try simp only [lzP, lzA, lzS])
              have HB3' : Below W1.heap.size W1 X3 := HB2'.trans (hb3.mono HB2'.size)
              have hsz3 := hb3.size
              have hz3 := own_belowB hz2 hb3
              have hm3 := MapAt.kept hm2 (hb3.block _ (MapAt.lt hm2))
              have hA3 := hA2.belowB hb3
              have hfin := newFin (w := W1) HB3' hA3 hz3 hr3 hm3 (by omega) (by omega) (by omega) (by omega) (by omega) (by omega) Hln.out HA1.out
              have HFin := hid hfin
              clear hfin
              refine whE 7 rfl ?_
              (try simp only [lzP, lzA, lzS])
              refine wpAnyH_ready (rs := [8]) (by kernel_rfl) (by simp) ?_
              refine AllReadyH.cons (o := _) rfl (fun K hK => ?_) AllReadyH.nil
              rw [if_pos (by rfl)]
              (try simp only [lzA])
              go_simp
              refine hK.out _ _ trivial (fun _ => ?_)
              clear hK K
              (try simp only [lzP, lzA, lzS])
              refine whE 9 rfl ?_
              (try simp only [lzP, lzA, lzS])
              refine whE 10 rfl ?_
              (try simp only [lzP, lzA, lzS])
              refine wpAnyH_done (by kernel_rfl) ?_ _
              go_wp2
              go_ret2
              exact HFin.out.of HB1.out
        · skip
          rw [if_pos (by rfl)]
          (try simp only [lzA])
          obtain ⟨X1, hmk1, hr1, hg1⟩ := run_make_full (P := prog) X0 0 190 39 j0 (.slice none 0 0) 1 underlying190 hj0 jz0 jz1 .i64 .i64 (m + 1) (by rw [jz2]; omega) (by unfold maxLen; omega) (Nat.zero_le _)
          have hb1 : Below X0.heap.size X0 X1 := (Below.refl _ _).grown hg1 (Nat.le_refl _) (fun _ h => by cases h)
          rw [show ((m + 1 : Nat) : Int) = (m : Int) + 1 by omega] at hmk1
          obtain ⟨rb, hrb⟩ : ∃ rb, X0.heap.size = rb := ⟨_, rfl⟩
          rw [hrb] at hmk1 hr1
          have hrl : rb < X1.heap.size := (hr1.lt _ rfl).2
          go_simp
          refine hK.out _ _ trivial (fun _ => ?_)
          clear hK K
          (try simp only [lzP, lzA, lzS])
          have HB1' : Below W1.heap.size W1 X1 := HB0'.trans (hb1.mono HB0'.size)
          have hsz1 := hb1.size
          have hA1 := hA0.belowB hb1
          refine wpAnyH_ready (rs := [2, 6]) (by kernel_rfl) (by simp) ?_
          refine AllReadyH.cons (o := _) rfl (fun K hK => ?_) (AllReadyH.cons (o := _) rfl (fun K hK => ?_) AllReadyH.nil)
          · skip
            rw [if_pos (by rfl)]
            (try simp only [lzA])
            go_simp
            refine (cloneI_some ⟨b, o, none⟩ (m + 1) c l X1 (Hr1.out.below (HB1' : Below W1.heap.size W1 X1)) (by rw [Hln.out]; omega)).mono ?_
            rintro e X2 ⟨v, rfl, hz, hb2⟩
            rw [Hln.out] at hz
            obtain ⟨zb, zc, rfl, hzl, hzh⟩ := hz.form (by omega)
            have hz2 : X2.ownsRow 0 3 1 (.slice (some ⟨zb, 0, none⟩) (m + 1) zc) (m + 1) (l.map (.int .i64)) := own_zero hz
            dsimp only
            refine hK.out _ _ trivial (fun _ => ?_)
            clear hK K
            (try simp only [lzP, lzA, lzS])
            have HB2' : Below W1.heap.size W1 X2 := HB1'.trans (hb2.mono HB1'.size)
            have hsz2 := hb2.size
            have hr2 := own_belowB hr1 hb2
            have hA2 := hA1.belowB hb2
            refine wpAnyH_ready (rs := [6]) (by kernel_rfl) (by simp) ?_
            refine AllReadyH.cons (o := _) rfl (fun K hK => ?_) AllReadyH.nil
            · skip
              rw [if_pos (by rfl)]
              (try simp only [lzA])
              obtain ⟨X3, hmk3, hm3, hb3, hms3⟩ := makeMap_run X2
              obtain ⟨mb, hmb⟩ : ∃ mb, X2.heap.size = mb := ⟨_, rfl⟩
              rw [hmb] at hm3 hmk3
              go_simp
              refine hK.out _ _ trivial (fun _ => ?_)
              clear hK K
              (try simp only [lzP, lzA, lzS])
              have HB3' : Below W1.heap.size W1 X3 := HB2'.trans (hb3.mono HB2'.size)
              have hsz3 := hb3.size
              have hr3 := own_belowB hr2 hb3
              have hz3 := own_belowB hz2 hb3
              have hA3 := hA2.belowB hb3
              have hfin := newFin (w := W1) HB3' hA3 hz3 hr3 hm3 (by omega) (by omega) (by omega) (by omega) (by omega) (by omega) Hln.out HA1.out
              have HFin := hid hfin
              clear hfin
              refine whE 7 rfl ?_
              (try simp only [lzP, lzA, lzS])
              refine wpAnyH_ready (rs := [8]) (by kernel_rfl) (by simp) ?_
              refine AllReadyH.cons (o := _) rfl (fun K hK => ?_) AllReadyH.nil
              rw [if_pos (by rfl)]
              (try simp only [lzA])
              go_simp
              refine hK.out _ _ trivial (fun _ => ?_)
              clear hK K
              (try simp only [lzP, lzA, lzS])
              refine whE 9 rfl ?_
              (try simp only [lzP, lzA, lzS])
              refine whE 10 rfl ?_
              (try simp only [lzP, lzA, lzS])
              refine wpAnyH_done (by kernel_rfl) ?_ _
              go_wp2
              go_ret2
              exact HFin.out.of HB1.out
          · skip
            rw [if_pos (by rfl)]
            (try simp only [lzA])
            obtain ⟨X2, hmk2, hm2, hb2, hms2⟩ := makeMap_run X1
            obtain ⟨mb, hmb⟩ : ∃ mb, X1.heap.size = mb := ⟨_, rfl⟩
            rw [hmb] at hm2 hmk2
            go_simp
            refine hK.out _ _ trivial (fun _ => ?_)
            clear hK K
            (try simp only [lzP, lzA, lzS])
            have HB2' : Below W1.heap.size W1 X2 := HB1'.trans (hb2.mono HB1'.size)
            have hsz2 := hb2.size
            have hr2 := own_belowB hr1 hb2
            have hA2 := hA1.belowB hb2
            refine wpAnyH_ready (rs := [2]) (by kernel_rfl) (by simp) ?_
            refine AllReadyH.cons (o := _) rfl (fun K hK => ?_) AllReadyH.nil
            · skip
              rw [if_pos (by rfl)]
              (try simp only [lzA])
              go_simp
              refine (cloneI_some ⟨b, o, none⟩ (m + 1) c l X2 (Hr1.out.below (HB2' : Below W1.heap.size W1 X2)) (by rw [Hln.out]; omega)).mono ?_
              rintro e X3 ⟨v, rfl, hz, hb3⟩
              rw [Hln.out] at hz
              obtain ⟨zb, zc, rfl, hzl, hzh⟩ := hz.form (by omega)
              have hz3 : X3.ownsRow 0 3 1 (.slice (some ⟨zb, 0, none⟩) (m + 1) zc) (m + 1) (l.map (.int .i64)) := own_zero hz
              dsimp only
              refine hK.out _ _ trivial (fun _ => ?_)
              clear hK K
              (try simp only [lzP, lzA, lzS])
              have HB3' : Below W1.heap.size W1 X3 := HB2'.trans (hb3.mono HB2'.size)
              have hsz3 := hb3.size
              have hr3 := own_belowB hr2 hb3
              have hm3 := MapAt.kept hm2 (hb3.block _ (MapAt.lt hm2))
              have hA3 := hA2.belowB hb3
              have hfin := newFin (w := W1) HB3' hA3 hz3 hr3 hm3 (by omega) (by omega) (by omega) (by omega) (by omega) (by omega) Hln.out HA1.out
              have HFin := hid hfin
              clear hfin
              refine whE 7 rfl ?_
              (try simp only [lzP, lzA, lzS])
              refine wpAnyH_ready (rs := [8]) (by kernel_rfl) (by simp) ?_
              refine AllReadyH.cons (o := _) rfl (fun K hK => ?_) AllReadyH.nil
              rw [if_pos (by rfl)]
              (try simp only [lzA])
              go_simp
              refine hK.out _ _ trivial (fun _ => ?_)
              clear hK K
              (try simp only [lzP, lzA, lzS])
              refine whE 9 rfl ?_
              (try simp only [lzP, lzA, lzS])
              refine whE 10 rfl ?_
              (try simp only [lzP, lzA, lzS])
              refine wpAnyH_done (by kernel_rfl) ?_ _
              go_wp2
              go_ret2
              exact HFin.out.of HB1.out
        · skip
          rw [if_pos (by rfl)]
          (try simp only [lzA])
          obtain ⟨X1, hmk1, hm1, hb1, hms1⟩ := makeMap_run X0
          obtain ⟨mb, hmb⟩ : ∃ mb, X0.heap.size = mb := ⟨_, rfl⟩
          rw [hmb] at hm1 hmk1
          go_simp
          refine hK.out _ _ trivial (fun _ => ?_)
          clear hK K
          (try simp only [lzP, lzA, lzS])
          have HB1' : Below W1.heap.size W1 X1 := HB0'.trans (hb1.mono HB0'.size)
          have hsz1 := hb1.size
          have hA1 := hA0.belowB hb1
          refine wpAnyH_ready (rs := [2, 5]) (by kernel_rfl) (by simp) ?_
          refine AllReadyH.cons (o := _) rfl (fun K hK => ?_) (AllReadyH.cons (o := _) rfl (fun K hK => ?_) AllReadyH.nil)
          · skip
            rw [if_pos (by rfl)]
            (try simp only [lzA])
            go_simp
            refine (cloneI_some ⟨b, o, none⟩ (m + 1) c l X1 (Hr1.out.below (HB1' : Below W1.heap.size W1 X1)) (by rw [Hln.out]; omega)).mono ?_
            rintro e X2 ⟨v, rfl, hz, hb2⟩
            rw [Hln.out] at hz
            obtain ⟨zb, zc, rfl, hzl, hzh⟩ := hz.form (by omega)
            have hz2 : X2.ownsRow 0 3 1 (.slice (some ⟨zb, 0, none⟩) (m + 1) zc) (m + 1) (l.map (.int .i64)) := own_zero hz
            dsimp only
            refine hK.out _ _ trivial (fun _ => ?_)
            clear hK K
            (try simp only [lzP, lzA, lzS])
            have HB2' : Below W1.heap.size W1 X2 := HB1'.trans (hb2.mono HB1'.size)
            have hsz2 := hb2.size
            have hm2 := MapAt.kept hm1 (hb2.block _ (MapAt.lt hm1))
            have hA2 := hA1.belowB hb2
            refine wpAnyH_ready (rs := [5]) (by kernel_rfl) (by simp) ?_
            refine AllReadyH.cons (o := _) rfl (fun K hK => ?_) AllReadyH.nil
            · skip
              rw [if_pos (by rfl)]
              (try simp only [lzA])
              obtain ⟨X3, hmk3, hr3, hg3⟩ := run_make_full (P := prog) X2 0 190 39 j0 (.slice none 0 0) 1 underlying190 hj0 jz0 jz1 .i64 .i64 (m + 1) (by rw [jz2]; omega) (by unfold maxLen; omega) (Nat.zero_le _)
              have hb3 : Below X2.heap.size X2 X3 := (Below.refl _ _).grown hg3 (Nat.le_refl _) (fun _ h => by cases h)
              rw [show ((m + 1 : Nat) : Int) = (m : Int) + 1 by omega] at hmk3
              obtain ⟨rb, hrb⟩ : ∃ rb, X2.heap.size = rb := ⟨_, rfl⟩
              rw [hrb] at hmk3 hr3
              have hrl : rb < X3.heap.size := (hr3.lt _ rfl).2
              go_simp
              refine hK.out _ _ trivial (fun _ => ?_)
              clear hK K
              (try simp only [lzP, lzA, lzS])
              have HB3' : Below W1.heap.size W1 X3 := HB2'.trans (hb3.mono HB2'.size)
              have hsz3 := hb3.size
              have hm3 := MapAt.kept hm2 (hb3.block _ (MapAt.lt hm2))
              have hz3 := own_belowB hz2 hb3
              have hA3 := hA2.belowB hb3
              have hfin := newFin (w := W1) HB3' hA3 hz3 hr3 hm3 (by omega) (by omega) (by omega) (by omega) (by omega) (by omega) Hln.out HA1.out
              have HFin := hid hfin
              clear hfin
              refine whE 7 rfl ?_
              (try simp only [lzP, lzA, lzS])
              refine wpAnyH_ready (rs := [8]) (by kernel_rfl) (by simp) ?_
              refine AllReadyH.cons (o := _) rfl (fun K hK => ?_) AllReadyH.nil
              rw [if_pos (by rfl)]
              (try simp only [lzA])
              go_simp
              refine hK.out _ _ trivial (fun _ => ?_)
              clear hK K
              (try simp only [lzP, lzA, lzS])
              refine whE 9 rfl ?_
              (try simp only [lzP, lzA, lzS])
              refine whE 10 rfl ?_
              (try simp only [lzP, lzA, lzS])
              refine wpAnyH_done (by kernel_rfl) ?_ _
              go_wp2
              go_ret2
              exact HFin.out.of HB1.out
          · skip
            rw [if_pos (by rfl)]
            (try simp only [lzA])
            obtain ⟨X2, hmk2, hr2, hg2⟩ := run_make_full (P := prog) X1 0 190 39 j0 (.slice none 0 0) 1 underlying190 hj0 jz0 jz1 .i64 .i64 (m + 1) (by rw [jz2]; omega) (by unfold maxLen; omega) (Nat.zero_le _)
            have hb2 : Below X1.heap.size X1 X2 := (Below.refl _ _).grown hg2 (Nat.le_refl _) (fun _ h => by cases h)
            rw [show ((m + 1 : Nat) : Int) = (m : Int) + 1 by omega] at hmk2
            obtain ⟨rb, hrb⟩ : ∃ rb, X1.heap.size = rb := ⟨_, rfl⟩
            rw [hrb] at hmk2 hr2
            have hrl : rb < X2.heap.size := (hr2.lt _ rfl).2
            go_simp
            refine hK.out _ _ trivial (fun _ => ?_)
            clear hK K
            (try simp only [lzP, lzA, lzS])
            have HB2' : Below W1.heap.size W1 X2 := HB1'.trans (hb2.mono HB1'.size)
            have hsz2 := hb2.size
            have hm2 := MapAt.kept hm1 (hb2.block _ (MapAt.lt hm1))
            have hA2 := hA1.belowB hb2
            refine wpAnyH_ready (rs := [2]) (by kernel_rfl) (by simp) ?_
            refine AllReadyH.cons (o := _) rfl (fun K hK => ?_) AllReadyH.nil
            · skip
              rw [if_pos (by rfl)]
              (try simp only [lzA])
              go_simp
              refine (cloneI_some ⟨b, o, none⟩ (m + 1) c l X2 (Hr1.out.below (HB2' : Below W1.heap.size W1 X2)) (by rw [Hln.out]; omega)).mono ?_
              rintro e X3 ⟨v, rfl, hz, hb3⟩
              rw [Hln.out] at hz
              obtain ⟨zb, zc, rfl, hzl, hzh⟩ := hz.form (by omega)
              have hz3 : X3.ownsRow 0 3 1 (.slice (some ⟨zb, 0, none⟩) (m + 1) zc) (m + 1) (l.map (.int .i64)) := own_zero hz
              dsimp only
              refine hK.out _ _ trivial (fun _ => ?_)
              clear hK K
              (try simp only [lzP, lzA, lzS])
              have HB3' : Below W1.heap.size W1 X3 := HB2'.trans (hb3.mono HB2'.size)
              have hsz3 := hb3.size
              have hm3 := MapAt.kept hm2 (hb3.block _ (MapAt.lt hm2))
              have hr3 := own_belowB hr2 hb3
              have hA3 := hA2.belowB hb3
              have hfin := newFin (w := W1) HB3' hA3 hz3 hr3 hm3 (by omega) (by omega) (by omega) (by omega) (by omega) (by omega) Hln.out HA1.out
              have HFin := hid hfin
              clear hfin
              refine whE 7 rfl ?_
              (try simp only [lzP, lzA, lzS])
              refine wpAnyH_ready (rs := [8]) (by kernel_rfl) (by simp) ?_
              refine AllReadyH.cons (o := _) rfl (fun K hK => ?_) AllReadyH.nil
              rw [if_pos (by rfl)]
              (try simp only [lzA])
              go_simp
              refine hK.out _ _ trivial (fun _ => ?_)
              clear hK K
              (try simp only [lzP, lzA, lzS])
              refine whE 9 rfl ?_
              (try simp only [lzP, lzA, lzS])
              refine whE 10 rfl ?_
              (try simp only [lzP, lzA, lzS])
              refine wpAnyH_done (by kernel_rfl) ?_ _
              go_wp2
              go_ret2
              exact HFin.out.of HB1.out
end Go.Proofs.YtboehbfagnocpaaGreatDoor
