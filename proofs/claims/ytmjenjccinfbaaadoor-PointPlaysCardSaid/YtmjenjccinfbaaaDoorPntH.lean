/- Chapter 15: what Sent and Safe do, told of a state. -/
import Derived.Test.YtmjenjccinfbaaaDoorPntE
namespace Go.Proofs.YtmjenjccinfbaaaDoor
set_option linter.unusedVariables false
set_option linter.unusedSimpArgs false
open Go Go.Fw

section
variable {h : Heap} {nx p u v : Nat} {sp l sf : List D} {a k c d n x1 x2 g x4 x5 x6 : Int} {x7 x8 : SV} {b : Bool} {K : SV → Heap → Prop}
theorem sent_of (hp : hget h p = some (ptC sp u a v k c d)) (hu : hget h u = some (.arr 112 sentT l)) (hv : hget h v = some (.arr 2 (.int .i64) sf))
    (hk : 0 ≤ k ∧ k ≤ l.length) (hlen : l.length < 16384) (hgr : grOk l sf) (hlow : lowT sp) (ha : a ≤ 1099511627776) (h7 : x7.one = true ∧ x8.one = true) (hg : 0 ≤ g ∧ g < sf.length ∧ 1 ≤ n ∧ n ≤ 1099511627776) (hn : n = nextF sp a)
    {x : Nat × Int × Int} (hx : lookF (l ++ [sent3 n g b]) sf (l.length + 1 - k.toNat) k.toNat c d = x)
    (hK : K (.dat .iface .nil) ((nx, .arr 112 sentT (l ++ [sent3 n g b])) :: hset (hdel h u) p (ptC sp nx n v x.1 x.2.1 x.2.2))) :
    spPSent [.ptr p 0, .agg [.int .i64 n, .int .i64 x1, .int .i64 x2, .int .i64 g, .int .i64 x4, .int .i64 x5, .int .i64 x6, x7, x8, .bool b]] h nx K := by
  rw [ptC_def] at hp hK
  have e : (l ++ [sent3 n g b]).length = l.length + 1 := by rw [List.length_append, List.length_singleton]
  simp only [spPSent, hp, hu, hv, pOk_c, sOk_c, iOk_c, pS_c, pU_c, pA_c, pV_c, pK_c, aL_c, sentH, sentP, lookS, pC_c, pD_c, e, hx]
  exact ⟨trivial, trivial, trivial, hk, by omega, hgr, hlow, ha, h7, fun hc => absurd hg hc, fun _ hc => absurd hn hc, fun _ _ hc => absurd hlen (by omega), fun _ _ _ => hK⟩
theorem sent_range (hp : hget h p = some (ptC sp u a v k c d)) (hu : hget h u = some (.arr 112 sentT l)) (hv : hget h v = some (.arr 2 (.int .i64) sf))
    (hk : 0 ≤ k ∧ k ≤ l.length) (hlen : l.length ≤ 16384) (hgr : grOk l sf) (hlow : lowT sp) (ha : a ≤ 1099511627776) (h7 : x7.one = true ∧ x8.one = true) (hg : ¬ (0 ≤ g ∧ g < sf.length ∧ 1 ≤ n ∧ n ≤ 1099511627776))
    (hK : K (.dat .iface (.err 0)) h) :
    spPSent [.ptr p 0, .agg [.int .i64 n, .int .i64 x1, .int .i64 x2, .int .i64 g, .int .i64 x4, .int .i64 x5, .int .i64 x6, x7, x8, .bool b]] h nx K := by
  rw [ptC_def] at hp
  simp only [spPSent, hp, hu, hv, pOk_c, sOk_c, iOk_c, pS_c, pU_c, pA_c, pV_c, pK_c, aL_c, sentH, sentP, lookS, pC_c, pD_c]
  exact ⟨trivial, trivial, trivial, hk, hlen, hgr, hlow, ha, h7, fun _ => hK, fun hc => absurd hc hg, fun hc => absurd hc hg, fun hc => absurd hc hg⟩
theorem sent_shape (hp : hget h p = some (ptC sp u a v k c d)) (hu : hget h u = some (.arr 112 sentT l)) (hv : hget h v = some (.arr 2 (.int .i64) sf))
    (hk : 0 ≤ k ∧ k ≤ l.length) (hlen : l.length ≤ 16384) (hgr : grOk l sf) (hlow : lowT sp) (ha : a ≤ 1099511627776) (h7 : x7.one = true ∧ x8.one = true) (hg : 0 ≤ g ∧ g < sf.length ∧ 1 ≤ n ∧ n ≤ 1099511627776) (hn : n ≠ nextF sp a)
    (hK : K (.dat .iface (.err 1)) h) :
    spPSent [.ptr p 0, .agg [.int .i64 n, .int .i64 x1, .int .i64 x2, .int .i64 g, .int .i64 x4, .int .i64 x5, .int .i64 x6, x7, x8, .bool b]] h nx K := by
  rw [ptC_def] at hp
  simp only [spPSent, hp, hu, hv, pOk_c, sOk_c, iOk_c, pS_c, pU_c, pA_c, pV_c, pK_c, aL_c, sentH, sentP, lookS, pC_c, pD_c]
  exact ⟨trivial, trivial, trivial, hk, hlen, hgr, hlow, ha, h7, fun hc => absurd hg hc, fun _ _ => hK, fun _ hc => absurd hc hn, fun _ hc => absurd hc hn⟩
theorem sent_many (hp : hget h p = some (ptC sp u a v k c d)) (hu : hget h u = some (.arr 112 sentT l)) (hv : hget h v = some (.arr 2 (.int .i64) sf))
    (hk : 0 ≤ k ∧ k ≤ l.length) (hlen : l.length = 16384) (hgr : grOk l sf) (hlow : lowT sp) (ha : a ≤ 1099511627776) (h7 : x7.one = true ∧ x8.one = true) (hg : 0 ≤ g ∧ g < sf.length ∧ 1 ≤ n ∧ n ≤ 1099511627776) (hn : n = nextF sp a)
    (hK : K (.dat .iface (.err 2)) h) :
    spPSent [.ptr p 0, .agg [.int .i64 n, .int .i64 x1, .int .i64 x2, .int .i64 g, .int .i64 x4, .int .i64 x5, .int .i64 x6, x7, x8, .bool b]] h nx K := by
  rw [ptC_def] at hp
  simp only [spPSent, hp, hu, hv, pOk_c, sOk_c, iOk_c, pS_c, pU_c, pA_c, pV_c, pK_c, aL_c, sentH, sentP, lookS, pC_c, pD_c]
  exact ⟨trivial, trivial, trivial, hk, by omega, hgr, hlow, ha, h7, fun hc => absurd hg hc, fun _ hc => absurd hn hc, fun _ _ _ => hK, fun _ _ hc => absurd hlen (by omega)⟩
theorem safe_of (hp : hget h p = some (ptC sp u a v k c d)) (hu : hget h u = some (.arr 112 sentT l)) (hv : hget h v = some (.arr 2 (.int .i64) sf)) (huv : v ≠ u) (hpu : v ≠ p)
    (hk : 0 ≤ k ∧ k ≤ l.length) (hlen : l.length ≤ 1000000) (hgr : grOk l sf) (hg : 0 ≤ g ∧ g < sf.length ∧ (sf.getD g.toNat .nil).i ≤ n)
    {x : Nat × Int × Int} (hx : lookF l (setI sf g n) (l.length - k.toNat) k.toNat c d = x)
    (hK : K (.bool true) (hset (hset h v (.arr 2 (.int .i64) (setI sf g n))) p (ptC sp u a v x.1 x.2.1 x.2.2))) :
    spPSafe [.ptr p 0, .int .i64 g, .int .i64 n] h nx K := by
  have hu2 : ∀ t, hget (hset h v t) u = some (.arr 112 sentT l) := fun t => by rw [hget_hset_ne huv]; exact hu
  have hv2 : ∀ t, hget (hset h v t) v = some t := fun t => hget_hset' hv
  rw [ptC_def] at hp hK
  simp only [spPSafe, hp, hu, hv, pOk_c, sOk_c, iOk_c, pS_c, pU_c, pA_c, pV_c, pK_c, aL_c, pC_c, pD_c, goF, ptG, ptC_def, hu2, hv2, hx]
  exact ⟨trivial, trivial, trivial, hk, hlen, hgr, fun hc => absurd hg hc, fun _ => hK⟩
theorem safe_no (hp : hget h p = some (ptC sp u a v k c d)) (hu : hget h u = some (.arr 112 sentT l)) (hv : hget h v = some (.arr 2 (.int .i64) sf))
    (hk : 0 ≤ k ∧ k ≤ l.length) (hlen : l.length ≤ 1000000) (hgr : grOk l sf) (hg : ¬ (0 ≤ g ∧ g < sf.length ∧ (sf.getD g.toNat .nil).i ≤ n))
    (hK : K (.bool false) h) :
    spPSafe [.ptr p 0, .int .i64 g, .int .i64 n] h nx K := by
  rw [ptC_def] at hp
  simp only [spPSafe, hp, hu, hv, pOk_c, sOk_c, iOk_c, pS_c, pU_c, pA_c, pV_c, pK_c, aL_c]
  exact ⟨trivial, trivial, trivial, hk, hlen, hgr, fun _ => hK, fun hc => absurd hc hg⟩
end
end Go.Proofs.YtmjenjccinfbaaaDoor
